/- What functions do, said as what the evaluator does. Printed by a program. -/
import Derived.Test.YtapkhdlohcbcmaaGreatDoorBeg
import Derived.Test.YtapkhdlohcbcmaaGreatDoorEv3
namespace Go.Ab
noncomputable section
open Go.Proofs
set_option maxRecDepth 100000



/-! 5: fieldfare/fieldfarelaw7.MetricTurn -/
abbrev m_fieldfarelaw7_MetricTurn_K (K : AV → AH → Prop) : KP := finP PP (resC PP 5) K
abbrev m_fieldfarelaw7_MetricTurnttttttttt_k (K : AV → AH → Prop) : KP := exP (codeP PP CC (subC (bodyC PP 5) [1, 1, 1, 1, 1, 1, 1, 1, 1, 1]) (m_fieldfarelaw7_MetricTurn_K K)) (m_fieldfarelaw7_MetricTurn_K K)
abbrev m_fieldfarelaw7_MetricTurntttttttttht_k (K : AV → AH → Prop) : KP := blockP 2 (m_fieldfarelaw7_MetricTurnttttttttt_k K)
abbrev m_fieldfarelaw7_MetricTurnttttttttthtb_k (K : AV → AH → Prop) (r0 : (AV × AV × AV × AV × AV × AV × AV × AV) → AH → Prop) : KP := exP (fun (a : TE) (H : AH) => r0 (a 3, a 10, a 11, a 13, a 14, a 16, a 116, a 117) H) (m_fieldfarelaw7_MetricTurntttttttttht_k K)
def m_fieldfarelaw7_MetricTurnttttttttthtbl (K : AV → AH → Prop) (r0 : (AV × AV × AV × AV × AV × AV × AV × AV) → AH → Prop) (x3 x10 x11 x13 x14 x16 x116 x117 : AV) (H : AH) : Prop :=
  outP CC H (w_int .lss H x117 x116) fun v1 H1 =>
  condP v1
  (outP CC H1 (w_indexAddr (.sl 1) H1 x10 x117) fun v2 H2 =>
  outP CC H2 (w_load none H2 v2) fun v3 H3 =>
  outP CC H3 (w_int .mul H3 x3 v3) fun v4 H4 =>
  outP CC H4 (w_indexAddr (.sl 1) H4 x11 x117) fun v5 H5 =>
  outP CC H5 (w_load none H5 v5) fun v6 H6 =>
  outP CC H6 (w_int .mul H6 x3 v6) fun v7 H7 =>
  outP CC H7 (w_indexAddr (.sl 1) H7 x13 x117) fun v8 H8 =>
  outP CC H8 (w_store 1 H8 v8 v4) fun _v9 H9 =>
  outP CC H9 (w_indexAddr (.sl 1) H9 x14 x117) fun v10 H10 =>
  outP CC H10 (w_store 1 H10 v10 v7) fun _v11 H11 =>
  outP CC H11 (w_int .add H11 x117 (.int .i64 1)) fun v12 H12 =>
  r0 (x3, x10, x11, x13, x14, x16, x116, v12) H12)
  (outP CC (H1.more 2) (w_conv (.int .i64) (H1.more 2) x3 none) fun v13 H13 =>
  outP CC H13 (w_int .mul H13 x16 v13) fun v14 H14 =>
  outP CC H14 (w_conv (.int .i64) H14 x3 none) fun v15 H15 =>
  outP CC H15 (w_int .mul H15 v14 v15) fun v16 H16 =>
  outP CC H16 (some (.enter 21 [(.int .i64 1), x13, x14])) fun v17 H17 =>
  ckP (reC true (w_conv (.int .i64) H17 x3 none) v13) <|
  ckP (reC true (w_conv (.int .i64) H17 x3 none) v15) <|
  outP CC H17 (w_int .eql H17 v17 v16) fun v18 H18 =>
  guardP (boolIs true v18) H18 (outP CC H18 (some (.val x13 H18))) fun v19 H19 =>
  guardP (boolIs true v18) H19 (outP CC H19 (some (.val x11 H19))) fun v20 H20 =>
  guardP (boolIs true v18) H20 (outP CC H20 (some (.val x3 H20))) fun v21 H21 =>
  guardP (boolIs true v18) H21 (outP CC H21 (w_conv (.int .i64) H21 v21 none)) fun v22 H22 =>
  guardP (boolIs true v18) H22 (outP CC H22 (some (.val x10 H22))) fun v23 H23 =>
  guardP (boolIs true v18) H23 (outP CC H23 (some (.val x11 H23))) fun v24 H24 =>
  guardP (boolIs true v18) H24 (outP CC H24 (some (.enter 21 [(.int .i64 2), v19, v20]))) fun v25 H25 =>
  ckP (reC (boolIs true v18) (w_conv (.int .i64) H25 v21 none) v22) <|
  guardP (boolIs true v18) H25 (outP CC H25 (some (.enter 21 [(.int .i64 2), v23, v24]))) fun v26 H26 =>
  ckP (reC (boolIs true v18) (w_conv (.int .i64) H26 v21 none) v22) <|
  guardP (boolIs true v18) H26 (outP CC H26 (w_int .mul H26 v22 v26)) fun v27 H27 =>
  guardP (boolIs true v18) H27 (outP CC H27 (w_int .eql H27 v25 v27)) fun v28 H28 =>
  outP CC H28 (w_pick H28 v18 v28 (.bool false)) fun v29 H29 =>
  guardP (boolIs true v29) H29 (outP CC H29 (some (.val x10 H29))) fun v30 H30 =>
  guardP (boolIs true v29) H30 (outP CC H30 (some (.val x11 H30))) fun v31 H31 =>
  guardP (boolIs true v29) H31 (outP CC H31 (some (.val x10 H31))) fun v32 H32 =>
  guardP (boolIs true v29) H32 (outP CC H32 (some (.val x11 H32))) fun v33 H33 =>
  guardP (boolIs true v29) H33 (outP CC H33 (some (.val x10 H33))) fun v34 H34 =>
  guardP (boolIs true v29) H34 (outP CC H34 (some (.val x11 H34))) fun v35 H35 =>
  guardP (boolIs true v29) H35 (outP CC H35 (some (.enter 21 [(.int .i64 1), v30, v31]))) fun v36 H36 =>
  guardP (boolIs true v29) H36 (outP CC H36 (w_makeSlice PP 21 H36 (.int .i64 4) (.int .i64 4) (some (Nat.add H1.next 0)))) fun v37 H37 =>
  guardP (boolIs true v29) H37 (outP CC H37 (some (.enter 21 [(.int .i64 1), v32, v37]))) fun v38 H38 =>
  guardP (boolIs true v29) H38 (outP CC H38 (w_makeSlice PP 21 H38 (.int .i64 4) (.int .i64 4) (some (Nat.add H1.next 1)))) fun v39 H39 =>
  guardP (boolIs true v29) H39 (outP CC H39 (some (.enter 21 [(.int .i64 1), v33, v39]))) fun v40 H40 =>
  guardP (boolIs true v29) H40 (outP CC H40 (w_int .add H40 v38 v40)) fun v41 H41 =>
  guardP (boolIs true v29) H41 (outP CC H41 (some (.enter 21 [(.int .i64 2), v34, v35]))) fun v42 H42 =>
  guardP (boolIs true v29) H42 (outP CC H42 (w_int .mul H42 (.int .i64 2) v42)) fun v43 H43 =>
  guardP (boolIs true v29) H43 (outP CC H43 (w_int .add H43 v41 v43)) fun v44 H44 =>
  guardP (boolIs true v29) H44 (outP CC H44 (w_int .eql H44 v36 v44)) fun v45 H45 =>
  outP CC H45 (w_pick H45 v29 v45 (.bool false)) fun v46 H46 =>
  K v46 H46)
theorem m_fieldfarelaw7_MetricTurnttttttttthtbl_eq (K : AV → AH → Prop) (r0 : (AV × AV × AV × AV × AV × AV × AV × AV) → AH → Prop) (a : TE) (H : AH) : codeP PP CC (subC (bodyC PP 5) [1, 1, 1, 1, 1, 1, 1, 1, 1, 0, 1, 0, 0]) (m_fieldfarelaw7_MetricTurnttttttttthtb_k K r0) a H = m_fieldfarelaw7_MetricTurnttttttttthtbl K r0 (a 3) (a 10) (a 11) (a 13) (a 14) (a 16) (a 116) (a 117) H :=
  by kernel_rfl
def m_fieldfarelaw7_MetricTurnttttttttthtb (K : AV → AH → Prop) (x3 x10 x11 x13 x14 x16 x116 x117 : AV) (H : AH) : Prop :=
  loopP (fun (r0 : (AV × AV × AV × AV × AV × AV × AV × AV) → AH → Prop) (s : (AV × AV × AV × AV × AV × AV × AV × AV)) (H : AH) => m_fieldfarelaw7_MetricTurnttttttttthtbl K r0 s.1 s.2.1 s.2.2.1 s.2.2.2.1 s.2.2.2.2.1 s.2.2.2.2.2.1 s.2.2.2.2.2.2.1 s.2.2.2.2.2.2.2 H) (x3, x10, x11, x13, x14, x16, x116, x117) H
theorem m_fieldfarelaw7_MetricTurnttttttttthtb_eq (K : AV → AH → Prop) (a : TE) (H : AH) : codeP PP CC (subC (bodyC PP 5) [1, 1, 1, 1, 1, 1, 1, 1, 1, 0, 1, 0]) (m_fieldfarelaw7_MetricTurntttttttttht_k K) a H = m_fieldfarelaw7_MetricTurnttttttttthtb K (a 3) (a 10) (a 11) (a 13) (a 14) (a 16) (a 116) (a 117) H :=
  have h1 : codeP PP CC (subC (bodyC PP 5) [1, 1, 1, 1, 1, 1, 1, 1, 1, 0, 1, 0]) (m_fieldfarelaw7_MetricTurntttttttttht_k K) a H = loopP (fun (rec : KE) => codeP PP CC (subC (bodyC PP 5) [1, 1, 1, 1, 1, 1, 1, 1, 1, 0, 1, 0, 0]) (exP rec (m_fieldfarelaw7_MetricTurntttttttttht_k K))) a H := by kernel_rfl
  have h2 := loopP_iso (F := fun (rec : KE) => codeP PP CC (subC (bodyC PP 5) [1, 1, 1, 1, 1, 1, 1, 1, 1, 0, 1, 0, 0]) (exP rec (m_fieldfarelaw7_MetricTurntttttttttht_k K))) (S := (AV × AV × AV × AV × AV × AV × AV × AV)) (fun a => (a 3, a 10, a 11, a 13, a 14, a 16, a 116, a 117)) (fun (r0 : (AV × AV × AV × AV × AV × AV × AV × AV) → AH → Prop) (s : (AV × AV × AV × AV × AV × AV × AV × AV)) (H : AH) => m_fieldfarelaw7_MetricTurnttttttttthtbl K r0 s.1 s.2.1 s.2.2.1 s.2.2.2.1 s.2.2.2.2.1 s.2.2.2.2.2.1 s.2.2.2.2.2.2.1 s.2.2.2.2.2.2.2 H) (fun (r0 : (AV × AV × AV × AV × AV × AV × AV × AV) → AH → Prop) (a : TE) (H : AH) => (show codeP PP CC (subC (bodyC PP 5) [1, 1, 1, 1, 1, 1, 1, 1, 1, 0, 1, 0, 0]) (exP (fun (a : TE) (H : AH) => r0 (a 3, a 10, a 11, a 13, a 14, a 16, a 116, a 117) H) (m_fieldfarelaw7_MetricTurntttttttttht_k K)) a H = codeP PP CC (subC (bodyC PP 5) [1, 1, 1, 1, 1, 1, 1, 1, 1, 0, 1, 0, 0]) (m_fieldfarelaw7_MetricTurnttttttttthtb_k K r0) a H from by kernel_rfl).trans (m_fieldfarelaw7_MetricTurnttttttttthtbl_eq K r0 a H)) a H
  h1.trans h2
theorem m_fieldfarelaw7_MetricTurntttttttttht_eq (K : AV → AH → Prop) (a : TE) (H : AH) : codeP PP CC (subC (bodyC PP 5) [1, 1, 1, 1, 1, 1, 1, 1, 1, 0, 1]) (m_fieldfarelaw7_MetricTurnttttttttt_k K) a H = m_fieldfarelaw7_MetricTurnttttttttthtb K (a 3) (a 10) (a 11) (a 13) (a 14) (a 16) (a 116) (a 117) H :=
  have h1 : codeP PP CC (subC (bodyC PP 5) [1, 1, 1, 1, 1, 1, 1, 1, 1, 0, 1]) (m_fieldfarelaw7_MetricTurnttttttttt_k K) a H = codeP PP CC (subC (bodyC PP 5) [1, 1, 1, 1, 1, 1, 1, 1, 1, 0, 1, 0]) (m_fieldfarelaw7_MetricTurntttttttttht_k K) a H := by kernel_rfl
  h1.trans (m_fieldfarelaw7_MetricTurnttttttttthtb_eq K a H)
abbrev m_fieldfarelaw7_MetricTurnttttttttth_k (K : AV → AH → Prop) : KP := exP (fun (a : TE) (H : AH) => m_fieldfarelaw7_MetricTurnttttttttthtb K (a 3) (a 10) (a 11) (a 13) (a 14) (a 16) (a 116) (a 117) H) (m_fieldfarelaw7_MetricTurnttttttttt_k K)
def m_fieldfarelaw7_MetricTurnttttttttth (K : AV → AH → Prop) (x3 x10 x11 x13 x14 x16 : AV) (H : AH) : Prop :=
  outP CC H (w_len PP 25 H x10) fun v1 H1 =>
  m_fieldfarelaw7_MetricTurnttttttttthtb K x3 x10 x11 x13 x14 x16 v1 (.int .i64 0) H1
theorem m_fieldfarelaw7_MetricTurnttttttttth_eq (K : AV → AH → Prop) (a : TE) (H : AH) : codeP PP CC (subC (bodyC PP 5) [1, 1, 1, 1, 1, 1, 1, 1, 1, 0]) (m_fieldfarelaw7_MetricTurnttttttttt_k K) a H = m_fieldfarelaw7_MetricTurnttttttttth K (a 3) (a 10) (a 11) (a 13) (a 14) (a 16) H :=
  have h1 : codeP PP CC (subC (bodyC PP 5) [1, 1, 1, 1, 1, 1, 1, 1, 1, 0]) (m_fieldfarelaw7_MetricTurnttttttttt_k K) a H = codeP PP CC (subC (bodyC PP 5) [1, 1, 1, 1, 1, 1, 1, 1, 1, 0, 0]) (exP (codeP PP CC (subC (bodyC PP 5) [1, 1, 1, 1, 1, 1, 1, 1, 1, 0, 1]) (m_fieldfarelaw7_MetricTurnttttttttt_k K)) (m_fieldfarelaw7_MetricTurnttttttttt_k K)) a H := by kernel_rfl
  have h2 : codeP PP CC (subC (bodyC PP 5) [1, 1, 1, 1, 1, 1, 1, 1, 1, 0, 0]) (exP (codeP PP CC (subC (bodyC PP 5) [1, 1, 1, 1, 1, 1, 1, 1, 1, 0, 1]) (m_fieldfarelaw7_MetricTurnttttttttt_k K)) (m_fieldfarelaw7_MetricTurnttttttttt_k K)) a H = codeP PP CC (subC (bodyC PP 5) [1, 1, 1, 1, 1, 1, 1, 1, 1, 0, 0]) (exP (fun (a : TE) (H : AH) => m_fieldfarelaw7_MetricTurnttttttttthtb K (a 3) (a 10) (a 11) (a 13) (a 14) (a 16) (a 116) (a 117) H) (m_fieldfarelaw7_MetricTurnttttttttt_k K)) a H := congrArg (fun k : KE => codeP PP CC (subC (bodyC PP 5) [1, 1, 1, 1, 1, 1, 1, 1, 1, 0, 0]) (exP k (m_fieldfarelaw7_MetricTurnttttttttt_k K)) a H) (funext fun a => funext fun H => m_fieldfarelaw7_MetricTurntttttttttht_eq K a H)
  have h2b : codeP PP CC (subC (bodyC PP 5) [1, 1, 1, 1, 1, 1, 1, 1, 1, 0, 0]) (exP (fun (a : TE) (H : AH) => m_fieldfarelaw7_MetricTurnttttttttthtb K (a 3) (a 10) (a 11) (a 13) (a 14) (a 16) (a 116) (a 117) H) (m_fieldfarelaw7_MetricTurnttttttttt_k K)) a H = codeP PP CC (subC (bodyC PP 5) [1, 1, 1, 1, 1, 1, 1, 1, 1, 0, 0]) (m_fieldfarelaw7_MetricTurnttttttttth_k K) a H := by kernel_rfl
  have h3 : codeP PP CC (subC (bodyC PP 5) [1, 1, 1, 1, 1, 1, 1, 1, 1, 0, 0]) (m_fieldfarelaw7_MetricTurnttttttttth_k K) a H = m_fieldfarelaw7_MetricTurnttttttttth K (a 3) (a 10) (a 11) (a 13) (a 14) (a 16) H := by kernel_rfl
  ((h1.trans h2).trans h2b).trans h3
theorem m_fieldfarelaw7_MetricTurnttttttttt_eq (K : AV → AH → Prop) (a : TE) (H : AH) : codeP PP CC (subC (bodyC PP 5) [1, 1, 1, 1, 1, 1, 1, 1, 1]) (m_fieldfarelaw7_MetricTurn_K K) a H = m_fieldfarelaw7_MetricTurnttttttttth K (a 3) (a 10) (a 11) (a 13) (a 14) (a 16) H :=
  have h1 : codeP PP CC (subC (bodyC PP 5) [1, 1, 1, 1, 1, 1, 1, 1, 1]) (m_fieldfarelaw7_MetricTurn_K K) a H = codeP PP CC (subC (bodyC PP 5) [1, 1, 1, 1, 1, 1, 1, 1, 1, 0]) (m_fieldfarelaw7_MetricTurnttttttttt_k K) a H := by kernel_rfl
  h1.trans (m_fieldfarelaw7_MetricTurnttttttttth_eq K a H)
abbrev m_fieldfarelaw7_MetricTurntttttttt_k (K : AV → AH → Prop) : KP := exP (fun (a : TE) (H : AH) => m_fieldfarelaw7_MetricTurnttttttttth K (a 3) (a 10) (a 11) (a 13) (a 14) (a 16) H) (m_fieldfarelaw7_MetricTurn_K K)
def m_fieldfarelaw7_MetricTurntttttttt (K : AV → AH → Prop) (x3 x10 x11 x13 x14 x16 : AV) (H : AH) : Prop :=
  outP CC H (some (.enter 21 [(.int .i64 1), x11, x10])) fun v1 H1 =>
  outP CC H1 (w_int .neq H1 x16 v1) fun v2 H2 =>
  guardP (boolIs false v2) H2 (outP CC H2 (some (.val x16 H2))) fun v3 H3 =>
  guardP (boolIs false v2) H3 (outP CC H3 (some (.val x13 H3))) fun v4 H4 =>
  guardP (boolIs false v2) H4 (outP CC H4 (some (.val x14 H4))) fun v5 H5 =>
  guardP (boolIs false v2) H5 (outP CC H5 (some (.enter 21 [(.int .i64 1), v4, v5]))) fun v6 H6 =>
  guardP (boolIs false v2) H6 (outP CC H6 (w_int .neq H6 v3 v6)) fun v7 H7 =>
  outP CC H7 (w_pick H7 v2 (.bool true) v7) fun v8 H8 =>
  guardP (boolIs false v8) H8 (outP CC H8 (some (.val x16 H8))) fun v9 H9 =>
  guardP (boolIs false v8) H9 (outP CC H9 (w_int .lss H9 v9 (.int .i64 0))) fun v10 H10 =>
  outP CC H10 (w_pick H10 v8 (.bool true) v10) fun v11 H11 =>
  condP v11
  (K (.bool false) H11)
  (m_fieldfarelaw7_MetricTurnttttttttth K x3 x10 x11 x13 x14 x16 H11)
theorem m_fieldfarelaw7_MetricTurntttttttt_eq (K : AV → AH → Prop) (a : TE) (H : AH) : codeP PP CC (subC (bodyC PP 5) [1, 1, 1, 1, 1, 1, 1, 1]) (m_fieldfarelaw7_MetricTurn_K K) a H = m_fieldfarelaw7_MetricTurntttttttt K (a 3) (a 10) (a 11) (a 13) (a 14) (a 16) H :=
  have h1 : codeP PP CC (subC (bodyC PP 5) [1, 1, 1, 1, 1, 1, 1, 1]) (m_fieldfarelaw7_MetricTurn_K K) a H = codeP PP CC (subC (bodyC PP 5) [1, 1, 1, 1, 1, 1, 1, 1, 0]) (exP (codeP PP CC (subC (bodyC PP 5) [1, 1, 1, 1, 1, 1, 1, 1, 1]) (m_fieldfarelaw7_MetricTurn_K K)) (m_fieldfarelaw7_MetricTurn_K K)) a H := by kernel_rfl
  have h2 : codeP PP CC (subC (bodyC PP 5) [1, 1, 1, 1, 1, 1, 1, 1, 0]) (exP (codeP PP CC (subC (bodyC PP 5) [1, 1, 1, 1, 1, 1, 1, 1, 1]) (m_fieldfarelaw7_MetricTurn_K K)) (m_fieldfarelaw7_MetricTurn_K K)) a H = codeP PP CC (subC (bodyC PP 5) [1, 1, 1, 1, 1, 1, 1, 1, 0]) (exP (fun (a : TE) (H : AH) => m_fieldfarelaw7_MetricTurnttttttttth K (a 3) (a 10) (a 11) (a 13) (a 14) (a 16) H) (m_fieldfarelaw7_MetricTurn_K K)) a H := congrArg (fun k : KE => codeP PP CC (subC (bodyC PP 5) [1, 1, 1, 1, 1, 1, 1, 1, 0]) (exP k (m_fieldfarelaw7_MetricTurn_K K)) a H) (funext fun a => funext fun H => m_fieldfarelaw7_MetricTurnttttttttt_eq K a H)
  have h2b : codeP PP CC (subC (bodyC PP 5) [1, 1, 1, 1, 1, 1, 1, 1, 0]) (exP (fun (a : TE) (H : AH) => m_fieldfarelaw7_MetricTurnttttttttth K (a 3) (a 10) (a 11) (a 13) (a 14) (a 16) H) (m_fieldfarelaw7_MetricTurn_K K)) a H = codeP PP CC (subC (bodyC PP 5) [1, 1, 1, 1, 1, 1, 1, 1, 0]) (m_fieldfarelaw7_MetricTurntttttttt_k K) a H := by kernel_rfl
  have h3 : codeP PP CC (subC (bodyC PP 5) [1, 1, 1, 1, 1, 1, 1, 1, 0]) (m_fieldfarelaw7_MetricTurntttttttt_k K) a H = m_fieldfarelaw7_MetricTurntttttttt K (a 3) (a 10) (a 11) (a 13) (a 14) (a 16) H := by kernel_rfl
  ((h1.trans h2).trans h2b).trans h3
abbrev m_fieldfarelaw7_MetricTurnttttttt_k (K : AV → AH → Prop) : KP := exP (fun (a : TE) (H : AH) => m_fieldfarelaw7_MetricTurntttttttt K (a 3) (a 10) (a 11) (a 13) (a 14) (a 16) H) (m_fieldfarelaw7_MetricTurn_K K)
def m_fieldfarelaw7_MetricTurnttttttt (K : AV → AH → Prop) (x3 x10 x11 x13 x14 : AV) (H : AH) : Prop :=
  outP CC H (some (.enter 21 [(.int .i64 1), x10, x11])) fun v1 H1 =>
  m_fieldfarelaw7_MetricTurntttttttt K x3 x10 x11 x13 x14 v1 H1
theorem m_fieldfarelaw7_MetricTurnttttttt_eq (K : AV → AH → Prop) (a : TE) (H : AH) : codeP PP CC (subC (bodyC PP 5) [1, 1, 1, 1, 1, 1, 1]) (m_fieldfarelaw7_MetricTurn_K K) a H = m_fieldfarelaw7_MetricTurnttttttt K (a 3) (a 10) (a 11) (a 13) (a 14) H :=
  have h1 : codeP PP CC (subC (bodyC PP 5) [1, 1, 1, 1, 1, 1, 1]) (m_fieldfarelaw7_MetricTurn_K K) a H = codeP PP CC (subC (bodyC PP 5) [1, 1, 1, 1, 1, 1, 1, 0]) (exP (codeP PP CC (subC (bodyC PP 5) [1, 1, 1, 1, 1, 1, 1, 1]) (m_fieldfarelaw7_MetricTurn_K K)) (m_fieldfarelaw7_MetricTurn_K K)) a H := by kernel_rfl
  have h2 : codeP PP CC (subC (bodyC PP 5) [1, 1, 1, 1, 1, 1, 1, 0]) (exP (codeP PP CC (subC (bodyC PP 5) [1, 1, 1, 1, 1, 1, 1, 1]) (m_fieldfarelaw7_MetricTurn_K K)) (m_fieldfarelaw7_MetricTurn_K K)) a H = codeP PP CC (subC (bodyC PP 5) [1, 1, 1, 1, 1, 1, 1, 0]) (exP (fun (a : TE) (H : AH) => m_fieldfarelaw7_MetricTurntttttttt K (a 3) (a 10) (a 11) (a 13) (a 14) (a 16) H) (m_fieldfarelaw7_MetricTurn_K K)) a H := congrArg (fun k : KE => codeP PP CC (subC (bodyC PP 5) [1, 1, 1, 1, 1, 1, 1, 0]) (exP k (m_fieldfarelaw7_MetricTurn_K K)) a H) (funext fun a => funext fun H => m_fieldfarelaw7_MetricTurntttttttt_eq K a H)
  have h2b : codeP PP CC (subC (bodyC PP 5) [1, 1, 1, 1, 1, 1, 1, 0]) (exP (fun (a : TE) (H : AH) => m_fieldfarelaw7_MetricTurntttttttt K (a 3) (a 10) (a 11) (a 13) (a 14) (a 16) H) (m_fieldfarelaw7_MetricTurn_K K)) a H = codeP PP CC (subC (bodyC PP 5) [1, 1, 1, 1, 1, 1, 1, 0]) (m_fieldfarelaw7_MetricTurnttttttt_k K) a H := by kernel_rfl
  have h3 : codeP PP CC (subC (bodyC PP 5) [1, 1, 1, 1, 1, 1, 1, 0]) (m_fieldfarelaw7_MetricTurnttttttt_k K) a H = m_fieldfarelaw7_MetricTurnttttttt K (a 3) (a 10) (a 11) (a 13) (a 14) H := by kernel_rfl
  ((h1.trans h2).trans h2b).trans h3
abbrev m_fieldfarelaw7_MetricTurntttttt_k (K : AV → AH → Prop) : KP := exP (fun (a : TE) (H : AH) => m_fieldfarelaw7_MetricTurnttttttt K (a 3) (a 10) (a 11) (a 13) (a 14) H) (m_fieldfarelaw7_MetricTurn_K K)
abbrev m_fieldfarelaw7_MetricTurnttttttht_k (K : AV → AH → Prop) : KP := blockP 0 (m_fieldfarelaw7_MetricTurntttttt_k K)
abbrev m_fieldfarelaw7_MetricTurntttttthtb_k (K : AV → AH → Prop) (r0 : (AV × AV × AV × AV × AV × AV × AV × AV × AV × AV) → AH → Prop) : KP := exP (fun (a : TE) (H : AH) => r0 (a 0, a 1, a 2, a 3, a 10, a 11, a 12, a 13, a 14, a 15) H) (m_fieldfarelaw7_MetricTurnttttttht_k K)
def m_fieldfarelaw7_MetricTurntttttthtbltt (_K : AV → AH → Prop) (r0 : (AV × AV × AV × AV × AV × AV × AV × AV × AV × AV) → AH → Prop) (x0 x1 x2 x3 x10 x11 x12 x13 x14 x15 : AV) (H : AH) : Prop :=
  outP CC H (w_int .add H x15 (.int .i64 1)) fun v1 H1 =>
  r0 (x0, x1, x2, x3, x10, x11, x12, x13, x14, v1) H1
theorem m_fieldfarelaw7_MetricTurntttttthtbltt_eq (K : AV → AH → Prop) (r0 : (AV × AV × AV × AV × AV × AV × AV × AV × AV × AV) → AH → Prop) (a : TE) (H : AH) : codeP PP CC (subC (bodyC PP 5) [1, 1, 1, 1, 1, 1, 0, 1, 0, 0, 1, 1]) (m_fieldfarelaw7_MetricTurntttttthtb_k K r0) a H = m_fieldfarelaw7_MetricTurntttttthtbltt K r0 (a 0) (a 1) (a 2) (a 3) (a 10) (a 11) (a 12) (a 13) (a 14) (a 15) H :=
  by kernel_rfl
abbrev m_fieldfarelaw7_MetricTurntttttthtblt_k (K : AV → AH → Prop) (r0 : (AV × AV × AV × AV × AV × AV × AV × AV × AV × AV) → AH → Prop) : KP := exP (fun (a : TE) (H : AH) => m_fieldfarelaw7_MetricTurntttttthtbltt K r0 (a 0) (a 1) (a 2) (a 3) (a 10) (a 11) (a 12) (a 13) (a 14) (a 15) H) (m_fieldfarelaw7_MetricTurntttttthtb_k K r0)
abbrev m_fieldfarelaw7_MetricTurntttttthtblth_k (K : AV → AH → Prop) (r0 : (AV × AV × AV × AV × AV × AV × AV × AV × AV × AV) → AH → Prop) : KP := blockP 1 (m_fieldfarelaw7_MetricTurntttttthtblt_k K r0)
def m_fieldfarelaw7_MetricTurntttttthtblthbt (K : AV → AH → Prop) (r0 : (AV × AV × AV × AV × AV × AV × AV × AV × AV × AV) → AH → Prop) (x0 x1 x2 x3 x10 x11 x12 x13 x14 x15 : AV) (H : AH) : Prop :=
  outP CC H (w_indexAddr (.sl 1) H x10 x15) fun v1 H1 =>
  outP CC H1 (w_load none H1 v1) fun v2 H2 =>
  outP CC H2 (w_indexAddr (.sl 1) H2 x12 x15) fun v3 H3 =>
  outP CC H3 (w_load none H3 v3) fun v4 H4 =>
  outP CC H4 (w_int .add H4 v2 v4) fun v5 H5 =>
  outP CC H5 (w_indexAddr (.sl 1) H5 x11 x15) fun v6 H6 =>
  outP CC H6 (w_load none H6 v6) fun v7 H7 =>
  outP CC H7 (w_indexAddr (.sl 1) H7 x12 x15) fun v8 H8 =>
  outP CC H8 (w_load none H8 v8) fun v9 H9 =>
  outP CC H9 (w_int .add H9 v7 v9) fun v10 H10 =>
  outP CC H10 (w_indexAddr (.sl 1) H10 x13 x15) fun v11 H11 =>
  outP CC H11 (w_store 1 H11 v11 v5) fun _v12 H12 =>
  outP CC H12 (w_indexAddr (.sl 1) H12 x14 x15) fun v13 H13 =>
  outP CC H13 (w_store 1 H13 v13 v10) fun _v14 H14 =>
  m_fieldfarelaw7_MetricTurntttttthtbltt K r0 x0 x1 x2 x3 x10 x11 x12 x13 x14 x15 H14
theorem m_fieldfarelaw7_MetricTurntttttthtblthbt_eq (K : AV → AH → Prop) (r0 : (AV × AV × AV × AV × AV × AV × AV × AV × AV × AV) → AH → Prop) (a : TE) (H : AH) : codeP PP CC (subC (bodyC PP 5) [1, 1, 1, 1, 1, 1, 0, 1, 0, 0, 1, 0, 0, 1]) (m_fieldfarelaw7_MetricTurntttttthtblth_k K r0) a H = m_fieldfarelaw7_MetricTurntttttthtblthbt K r0 (a 0) (a 1) (a 2) (a 3) (a 10) (a 11) (a 12) (a 13) (a 14) (a 15) H :=
  by kernel_rfl
abbrev m_fieldfarelaw7_MetricTurntttttthtblthb_k (K : AV → AH → Prop) (r0 : (AV × AV × AV × AV × AV × AV × AV × AV × AV × AV) → AH → Prop) : KP := exP (fun (a : TE) (H : AH) => m_fieldfarelaw7_MetricTurntttttthtblthbt K r0 (a 0) (a 1) (a 2) (a 3) (a 10) (a 11) (a 12) (a 13) (a 14) (a 15) H) (m_fieldfarelaw7_MetricTurntttttthtblth_k K r0)
def m_fieldfarelaw7_MetricTurntttttthtblthb (K : AV → AH → Prop) (r0 : (AV × AV × AV × AV × AV × AV × AV × AV × AV × AV) → AH → Prop) (x0 x1 x2 x3 x10 x11 x12 x13 x14 x15 : AV) (H : AH) : Prop :=
  outP CC H (w_len PP 25 H x0) fun v1 H1 =>
  outP CC H1 (w_int .lss H1 x15 v1) fun v2 H2 =>
  guardP (boolIs true v2) H2 (outP CC H2 (some (.val x15 H2))) fun v3 H3 =>
  guardP (boolIs true v2) H3 (outP CC H3 (some (.val x1 H3))) fun v4 H4 =>
  guardP (boolIs true v2) H4 (outP CC H4 (w_len PP 25 H4 v4)) fun v5 H5 =>
  guardP (boolIs true v2) H5 (outP CC H5 (w_int .lss H5 v3 v5)) fun v6 H6 =>
  outP CC H6 (w_pick H6 v2 v6 (.bool false)) fun v7 H7 =>
  guardP (boolIs true v7) H7 (outP CC H7 (some (.val x15 H7))) fun v8 H8 =>
  guardP (boolIs true v7) H8 (outP CC H8 (some (.val x2 H8))) fun v9 H9 =>
  guardP (boolIs true v7) H9 (outP CC H9 (w_len PP 25 H9 v9)) fun v10 H10 =>
  guardP (boolIs true v7) H10 (outP CC H10 (w_int .lss H10 v8 v10)) fun v11 H11 =>
  outP CC H11 (w_pick H11 v7 v11 (.bool false)) fun v12 H12 =>
  condP v12
  (outP CC H12 (w_indexAddr (.sl 1) H12 x0 x15) fun v13 H13 =>
  outP CC H13 (w_load none H13 v13) fun v14 H14 =>
  outP CC H14 (w_int .rem H14 v14 (.int .i32 100000)) fun v15 H15 =>
  outP CC H15 (w_indexAddr (.sl 1) H15 x1 x15) fun v16 H16 =>
  outP CC H16 (w_load none H16 v16) fun v17 H17 =>
  outP CC H17 (w_int .rem H17 v17 (.int .i32 100000)) fun v18 H18 =>
  outP CC H18 (w_indexAddr (.sl 1) H18 x2 x15) fun v19 H19 =>
  outP CC H19 (w_load none H19 v19) fun v20 H20 =>
  outP CC H20 (w_int .rem H20 v20 (.int .i32 100000)) fun v21 H21 =>
  outP CC H21 (w_indexAddr (.sl 1) H21 x10 x15) fun v22 H22 =>
  outP CC H22 (w_store 1 H22 v22 v15) fun _v23 H23 =>
  outP CC H23 (w_indexAddr (.sl 1) H23 x11 x15) fun v24 H24 =>
  outP CC H24 (w_store 1 H24 v24 v18) fun _v25 H25 =>
  outP CC H25 (w_indexAddr (.sl 1) H25 x12 x15) fun v26 H26 =>
  outP CC H26 (w_store 1 H26 v26 v21) fun _v27 H27 =>
  m_fieldfarelaw7_MetricTurntttttthtblthbt K r0 x0 x1 x2 x3 x10 x11 x12 x13 x14 x15 H27)
  (m_fieldfarelaw7_MetricTurntttttthtblthbt K r0 x0 x1 x2 x3 x10 x11 x12 x13 x14 x15 H12)
theorem m_fieldfarelaw7_MetricTurntttttthtblthb_eq (K : AV → AH → Prop) (r0 : (AV × AV × AV × AV × AV × AV × AV × AV × AV × AV) → AH → Prop) (a : TE) (H : AH) : codeP PP CC (subC (bodyC PP 5) [1, 1, 1, 1, 1, 1, 0, 1, 0, 0, 1, 0, 0]) (m_fieldfarelaw7_MetricTurntttttthtblth_k K r0) a H = m_fieldfarelaw7_MetricTurntttttthtblthb K r0 (a 0) (a 1) (a 2) (a 3) (a 10) (a 11) (a 12) (a 13) (a 14) (a 15) H :=
  have h1 : codeP PP CC (subC (bodyC PP 5) [1, 1, 1, 1, 1, 1, 0, 1, 0, 0, 1, 0, 0]) (m_fieldfarelaw7_MetricTurntttttthtblth_k K r0) a H = codeP PP CC (subC (bodyC PP 5) [1, 1, 1, 1, 1, 1, 0, 1, 0, 0, 1, 0, 0, 0]) (exP (codeP PP CC (subC (bodyC PP 5) [1, 1, 1, 1, 1, 1, 0, 1, 0, 0, 1, 0, 0, 1]) (m_fieldfarelaw7_MetricTurntttttthtblth_k K r0)) (m_fieldfarelaw7_MetricTurntttttthtblth_k K r0)) a H := by kernel_rfl
  have h2 : codeP PP CC (subC (bodyC PP 5) [1, 1, 1, 1, 1, 1, 0, 1, 0, 0, 1, 0, 0, 0]) (exP (codeP PP CC (subC (bodyC PP 5) [1, 1, 1, 1, 1, 1, 0, 1, 0, 0, 1, 0, 0, 1]) (m_fieldfarelaw7_MetricTurntttttthtblth_k K r0)) (m_fieldfarelaw7_MetricTurntttttthtblth_k K r0)) a H = codeP PP CC (subC (bodyC PP 5) [1, 1, 1, 1, 1, 1, 0, 1, 0, 0, 1, 0, 0, 0]) (exP (fun (a : TE) (H : AH) => m_fieldfarelaw7_MetricTurntttttthtblthbt K r0 (a 0) (a 1) (a 2) (a 3) (a 10) (a 11) (a 12) (a 13) (a 14) (a 15) H) (m_fieldfarelaw7_MetricTurntttttthtblth_k K r0)) a H := congrArg (fun k : KE => codeP PP CC (subC (bodyC PP 5) [1, 1, 1, 1, 1, 1, 0, 1, 0, 0, 1, 0, 0, 0]) (exP k (m_fieldfarelaw7_MetricTurntttttthtblth_k K r0)) a H) (funext fun a => funext fun H => m_fieldfarelaw7_MetricTurntttttthtblthbt_eq K r0 a H)
  have h2b : codeP PP CC (subC (bodyC PP 5) [1, 1, 1, 1, 1, 1, 0, 1, 0, 0, 1, 0, 0, 0]) (exP (fun (a : TE) (H : AH) => m_fieldfarelaw7_MetricTurntttttthtblthbt K r0 (a 0) (a 1) (a 2) (a 3) (a 10) (a 11) (a 12) (a 13) (a 14) (a 15) H) (m_fieldfarelaw7_MetricTurntttttthtblth_k K r0)) a H = codeP PP CC (subC (bodyC PP 5) [1, 1, 1, 1, 1, 1, 0, 1, 0, 0, 1, 0, 0, 0]) (m_fieldfarelaw7_MetricTurntttttthtblthb_k K r0) a H := by kernel_rfl
  have h3 : codeP PP CC (subC (bodyC PP 5) [1, 1, 1, 1, 1, 1, 0, 1, 0, 0, 1, 0, 0, 0]) (m_fieldfarelaw7_MetricTurntttttthtblthb_k K r0) a H = m_fieldfarelaw7_MetricTurntttttthtblthb K r0 (a 0) (a 1) (a 2) (a 3) (a 10) (a 11) (a 12) (a 13) (a 14) (a 15) H := by kernel_rfl
  ((h1.trans h2).trans h2b).trans h3
theorem m_fieldfarelaw7_MetricTurntttttthtblth_eq (K : AV → AH → Prop) (r0 : (AV × AV × AV × AV × AV × AV × AV × AV × AV × AV) → AH → Prop) (a : TE) (H : AH) : codeP PP CC (subC (bodyC PP 5) [1, 1, 1, 1, 1, 1, 0, 1, 0, 0, 1, 0]) (m_fieldfarelaw7_MetricTurntttttthtblt_k K r0) a H = m_fieldfarelaw7_MetricTurntttttthtblthb K r0 (a 0) (a 1) (a 2) (a 3) (a 10) (a 11) (a 12) (a 13) (a 14) (a 15) H :=
  have h1 : codeP PP CC (subC (bodyC PP 5) [1, 1, 1, 1, 1, 1, 0, 1, 0, 0, 1, 0]) (m_fieldfarelaw7_MetricTurntttttthtblt_k K r0) a H = codeP PP CC (subC (bodyC PP 5) [1, 1, 1, 1, 1, 1, 0, 1, 0, 0, 1, 0, 0]) (m_fieldfarelaw7_MetricTurntttttthtblth_k K r0) a H := by kernel_rfl
  h1.trans (m_fieldfarelaw7_MetricTurntttttthtblthb_eq K r0 a H)
theorem m_fieldfarelaw7_MetricTurntttttthtblt_eq (K : AV → AH → Prop) (r0 : (AV × AV × AV × AV × AV × AV × AV × AV × AV × AV) → AH → Prop) (a : TE) (H : AH) : codeP PP CC (subC (bodyC PP 5) [1, 1, 1, 1, 1, 1, 0, 1, 0, 0, 1]) (m_fieldfarelaw7_MetricTurntttttthtb_k K r0) a H = m_fieldfarelaw7_MetricTurntttttthtblthb K r0 (a 0) (a 1) (a 2) (a 3) (a 10) (a 11) (a 12) (a 13) (a 14) (a 15) H :=
  have h1 : codeP PP CC (subC (bodyC PP 5) [1, 1, 1, 1, 1, 1, 0, 1, 0, 0, 1]) (m_fieldfarelaw7_MetricTurntttttthtb_k K r0) a H = codeP PP CC (subC (bodyC PP 5) [1, 1, 1, 1, 1, 1, 0, 1, 0, 0, 1, 0]) (exP (codeP PP CC (subC (bodyC PP 5) [1, 1, 1, 1, 1, 1, 0, 1, 0, 0, 1, 1]) (m_fieldfarelaw7_MetricTurntttttthtb_k K r0)) (m_fieldfarelaw7_MetricTurntttttthtb_k K r0)) a H := by kernel_rfl
  have h2 : codeP PP CC (subC (bodyC PP 5) [1, 1, 1, 1, 1, 1, 0, 1, 0, 0, 1, 0]) (exP (codeP PP CC (subC (bodyC PP 5) [1, 1, 1, 1, 1, 1, 0, 1, 0, 0, 1, 1]) (m_fieldfarelaw7_MetricTurntttttthtb_k K r0)) (m_fieldfarelaw7_MetricTurntttttthtb_k K r0)) a H = codeP PP CC (subC (bodyC PP 5) [1, 1, 1, 1, 1, 1, 0, 1, 0, 0, 1, 0]) (exP (fun (a : TE) (H : AH) => m_fieldfarelaw7_MetricTurntttttthtbltt K r0 (a 0) (a 1) (a 2) (a 3) (a 10) (a 11) (a 12) (a 13) (a 14) (a 15) H) (m_fieldfarelaw7_MetricTurntttttthtb_k K r0)) a H := congrArg (fun k : KE => codeP PP CC (subC (bodyC PP 5) [1, 1, 1, 1, 1, 1, 0, 1, 0, 0, 1, 0]) (exP k (m_fieldfarelaw7_MetricTurntttttthtb_k K r0)) a H) (funext fun a => funext fun H => m_fieldfarelaw7_MetricTurntttttthtbltt_eq K r0 a H)
  have h2b : codeP PP CC (subC (bodyC PP 5) [1, 1, 1, 1, 1, 1, 0, 1, 0, 0, 1, 0]) (exP (fun (a : TE) (H : AH) => m_fieldfarelaw7_MetricTurntttttthtbltt K r0 (a 0) (a 1) (a 2) (a 3) (a 10) (a 11) (a 12) (a 13) (a 14) (a 15) H) (m_fieldfarelaw7_MetricTurntttttthtb_k K r0)) a H = codeP PP CC (subC (bodyC PP 5) [1, 1, 1, 1, 1, 1, 0, 1, 0, 0, 1, 0]) (m_fieldfarelaw7_MetricTurntttttthtblt_k K r0) a H := by kernel_rfl
  ((h1.trans h2).trans h2b).trans (m_fieldfarelaw7_MetricTurntttttthtblth_eq K r0 a H)
abbrev m_fieldfarelaw7_MetricTurntttttthtbl_k (K : AV → AH → Prop) (r0 : (AV × AV × AV × AV × AV × AV × AV × AV × AV × AV) → AH → Prop) : KP := exP (fun (a : TE) (H : AH) => m_fieldfarelaw7_MetricTurntttttthtblthb K r0 (a 0) (a 1) (a 2) (a 3) (a 10) (a 11) (a 12) (a 13) (a 14) (a 15) H) (m_fieldfarelaw7_MetricTurntttttthtb_k K r0)
def m_fieldfarelaw7_MetricTurntttttthtbl (K : AV → AH → Prop) (r0 : (AV × AV × AV × AV × AV × AV × AV × AV × AV × AV) → AH → Prop) (x0 x1 x2 x3 x10 x11 x12 x13 x14 x15 : AV) (H : AH) : Prop :=
  outP CC H (w_int .lss H x15 (.int .i64 4)) fun v1 H1 =>
  condP v1
  (m_fieldfarelaw7_MetricTurntttttthtblthb K r0 x0 x1 x2 x3 x10 x11 x12 x13 x14 x15 H1)
  (m_fieldfarelaw7_MetricTurnttttttt K x3 x10 x11 x13 x14 H1)
theorem m_fieldfarelaw7_MetricTurntttttthtbl_eq (K : AV → AH → Prop) (r0 : (AV × AV × AV × AV × AV × AV × AV × AV × AV × AV) → AH → Prop) (a : TE) (H : AH) : codeP PP CC (subC (bodyC PP 5) [1, 1, 1, 1, 1, 1, 0, 1, 0, 0]) (m_fieldfarelaw7_MetricTurntttttthtb_k K r0) a H = m_fieldfarelaw7_MetricTurntttttthtbl K r0 (a 0) (a 1) (a 2) (a 3) (a 10) (a 11) (a 12) (a 13) (a 14) (a 15) H :=
  have h1 : codeP PP CC (subC (bodyC PP 5) [1, 1, 1, 1, 1, 1, 0, 1, 0, 0]) (m_fieldfarelaw7_MetricTurntttttthtb_k K r0) a H = codeP PP CC (subC (bodyC PP 5) [1, 1, 1, 1, 1, 1, 0, 1, 0, 0, 0]) (exP (codeP PP CC (subC (bodyC PP 5) [1, 1, 1, 1, 1, 1, 0, 1, 0, 0, 1]) (m_fieldfarelaw7_MetricTurntttttthtb_k K r0)) (m_fieldfarelaw7_MetricTurntttttthtb_k K r0)) a H := by kernel_rfl
  have h2 : codeP PP CC (subC (bodyC PP 5) [1, 1, 1, 1, 1, 1, 0, 1, 0, 0, 0]) (exP (codeP PP CC (subC (bodyC PP 5) [1, 1, 1, 1, 1, 1, 0, 1, 0, 0, 1]) (m_fieldfarelaw7_MetricTurntttttthtb_k K r0)) (m_fieldfarelaw7_MetricTurntttttthtb_k K r0)) a H = codeP PP CC (subC (bodyC PP 5) [1, 1, 1, 1, 1, 1, 0, 1, 0, 0, 0]) (exP (fun (a : TE) (H : AH) => m_fieldfarelaw7_MetricTurntttttthtblthb K r0 (a 0) (a 1) (a 2) (a 3) (a 10) (a 11) (a 12) (a 13) (a 14) (a 15) H) (m_fieldfarelaw7_MetricTurntttttthtb_k K r0)) a H := congrArg (fun k : KE => codeP PP CC (subC (bodyC PP 5) [1, 1, 1, 1, 1, 1, 0, 1, 0, 0, 0]) (exP k (m_fieldfarelaw7_MetricTurntttttthtb_k K r0)) a H) (funext fun a => funext fun H => m_fieldfarelaw7_MetricTurntttttthtblt_eq K r0 a H)
  have h2b : codeP PP CC (subC (bodyC PP 5) [1, 1, 1, 1, 1, 1, 0, 1, 0, 0, 0]) (exP (fun (a : TE) (H : AH) => m_fieldfarelaw7_MetricTurntttttthtblthb K r0 (a 0) (a 1) (a 2) (a 3) (a 10) (a 11) (a 12) (a 13) (a 14) (a 15) H) (m_fieldfarelaw7_MetricTurntttttthtb_k K r0)) a H = codeP PP CC (subC (bodyC PP 5) [1, 1, 1, 1, 1, 1, 0, 1, 0, 0, 0]) (m_fieldfarelaw7_MetricTurntttttthtbl_k K r0) a H := by kernel_rfl
  have h3 : codeP PP CC (subC (bodyC PP 5) [1, 1, 1, 1, 1, 1, 0, 1, 0, 0, 0]) (m_fieldfarelaw7_MetricTurntttttthtbl_k K r0) a H = m_fieldfarelaw7_MetricTurntttttthtbl K r0 (a 0) (a 1) (a 2) (a 3) (a 10) (a 11) (a 12) (a 13) (a 14) (a 15) H := by kernel_rfl
  ((h1.trans h2).trans h2b).trans h3
def m_fieldfarelaw7_MetricTurntttttthtb (K : AV → AH → Prop) (x0 x1 x2 x3 x10 x11 x12 x13 x14 x15 : AV) (H : AH) : Prop :=
  loopP (fun (r0 : (AV × AV × AV × AV × AV × AV × AV × AV × AV × AV) → AH → Prop) (s : (AV × AV × AV × AV × AV × AV × AV × AV × AV × AV)) (H : AH) => m_fieldfarelaw7_MetricTurntttttthtbl K r0 s.1 s.2.1 s.2.2.1 s.2.2.2.1 s.2.2.2.2.1 s.2.2.2.2.2.1 s.2.2.2.2.2.2.1 s.2.2.2.2.2.2.2.1 s.2.2.2.2.2.2.2.2.1 s.2.2.2.2.2.2.2.2.2 H) (x0, x1, x2, x3, x10, x11, x12, x13, x14, x15) H
theorem m_fieldfarelaw7_MetricTurntttttthtb_eq (K : AV → AH → Prop) (a : TE) (H : AH) : codeP PP CC (subC (bodyC PP 5) [1, 1, 1, 1, 1, 1, 0, 1, 0]) (m_fieldfarelaw7_MetricTurnttttttht_k K) a H = m_fieldfarelaw7_MetricTurntttttthtb K (a 0) (a 1) (a 2) (a 3) (a 10) (a 11) (a 12) (a 13) (a 14) (a 15) H :=
  have h1 : codeP PP CC (subC (bodyC PP 5) [1, 1, 1, 1, 1, 1, 0, 1, 0]) (m_fieldfarelaw7_MetricTurnttttttht_k K) a H = loopP (fun (rec : KE) => codeP PP CC (subC (bodyC PP 5) [1, 1, 1, 1, 1, 1, 0, 1, 0, 0]) (exP rec (m_fieldfarelaw7_MetricTurnttttttht_k K))) a H := by kernel_rfl
  have h2 := loopP_iso (F := fun (rec : KE) => codeP PP CC (subC (bodyC PP 5) [1, 1, 1, 1, 1, 1, 0, 1, 0, 0]) (exP rec (m_fieldfarelaw7_MetricTurnttttttht_k K))) (S := (AV × AV × AV × AV × AV × AV × AV × AV × AV × AV)) (fun a => (a 0, a 1, a 2, a 3, a 10, a 11, a 12, a 13, a 14, a 15)) (fun (r0 : (AV × AV × AV × AV × AV × AV × AV × AV × AV × AV) → AH → Prop) (s : (AV × AV × AV × AV × AV × AV × AV × AV × AV × AV)) (H : AH) => m_fieldfarelaw7_MetricTurntttttthtbl K r0 s.1 s.2.1 s.2.2.1 s.2.2.2.1 s.2.2.2.2.1 s.2.2.2.2.2.1 s.2.2.2.2.2.2.1 s.2.2.2.2.2.2.2.1 s.2.2.2.2.2.2.2.2.1 s.2.2.2.2.2.2.2.2.2 H) (fun (r0 : (AV × AV × AV × AV × AV × AV × AV × AV × AV × AV) → AH → Prop) (a : TE) (H : AH) => (show codeP PP CC (subC (bodyC PP 5) [1, 1, 1, 1, 1, 1, 0, 1, 0, 0]) (exP (fun (a : TE) (H : AH) => r0 (a 0, a 1, a 2, a 3, a 10, a 11, a 12, a 13, a 14, a 15) H) (m_fieldfarelaw7_MetricTurnttttttht_k K)) a H = codeP PP CC (subC (bodyC PP 5) [1, 1, 1, 1, 1, 1, 0, 1, 0, 0]) (m_fieldfarelaw7_MetricTurntttttthtb_k K r0) a H from by kernel_rfl).trans (m_fieldfarelaw7_MetricTurntttttthtbl_eq K r0 a H)) a H
  h1.trans h2
theorem m_fieldfarelaw7_MetricTurnttttttht_eq (K : AV → AH → Prop) (a : TE) (H : AH) : codeP PP CC (subC (bodyC PP 5) [1, 1, 1, 1, 1, 1, 0, 1]) (m_fieldfarelaw7_MetricTurntttttt_k K) a H = m_fieldfarelaw7_MetricTurntttttthtb K (a 0) (a 1) (a 2) (a 3) (a 10) (a 11) (a 12) (a 13) (a 14) (a 15) H :=
  have h1 : codeP PP CC (subC (bodyC PP 5) [1, 1, 1, 1, 1, 1, 0, 1]) (m_fieldfarelaw7_MetricTurntttttt_k K) a H = codeP PP CC (subC (bodyC PP 5) [1, 1, 1, 1, 1, 1, 0, 1, 0]) (m_fieldfarelaw7_MetricTurnttttttht_k K) a H := by kernel_rfl
  h1.trans (m_fieldfarelaw7_MetricTurntttttthtb_eq K a H)
abbrev m_fieldfarelaw7_MetricTurntttttth_k (K : AV → AH → Prop) : KP := exP (fun (a : TE) (H : AH) => m_fieldfarelaw7_MetricTurntttttthtb K (a 0) (a 1) (a 2) (a 3) (a 10) (a 11) (a 12) (a 13) (a 14) (a 15) H) (m_fieldfarelaw7_MetricTurntttttt_k K)
def m_fieldfarelaw7_MetricTurntttttth (K : AV → AH → Prop) (x0 x1 x2 x3 x10 x11 x12 x13 x14 : AV) (H : AH) : Prop :=
  m_fieldfarelaw7_MetricTurntttttthtb K x0 x1 x2 x3 x10 x11 x12 x13 x14 (.int .i64 0) H
theorem m_fieldfarelaw7_MetricTurntttttth_eq (K : AV → AH → Prop) (a : TE) (H : AH) : codeP PP CC (subC (bodyC PP 5) [1, 1, 1, 1, 1, 1, 0]) (m_fieldfarelaw7_MetricTurntttttt_k K) a H = m_fieldfarelaw7_MetricTurntttttth K (a 0) (a 1) (a 2) (a 3) (a 10) (a 11) (a 12) (a 13) (a 14) H :=
  have h1 : codeP PP CC (subC (bodyC PP 5) [1, 1, 1, 1, 1, 1, 0]) (m_fieldfarelaw7_MetricTurntttttt_k K) a H = codeP PP CC (subC (bodyC PP 5) [1, 1, 1, 1, 1, 1, 0, 0]) (exP (codeP PP CC (subC (bodyC PP 5) [1, 1, 1, 1, 1, 1, 0, 1]) (m_fieldfarelaw7_MetricTurntttttt_k K)) (m_fieldfarelaw7_MetricTurntttttt_k K)) a H := by kernel_rfl
  have h2 : codeP PP CC (subC (bodyC PP 5) [1, 1, 1, 1, 1, 1, 0, 0]) (exP (codeP PP CC (subC (bodyC PP 5) [1, 1, 1, 1, 1, 1, 0, 1]) (m_fieldfarelaw7_MetricTurntttttt_k K)) (m_fieldfarelaw7_MetricTurntttttt_k K)) a H = codeP PP CC (subC (bodyC PP 5) [1, 1, 1, 1, 1, 1, 0, 0]) (exP (fun (a : TE) (H : AH) => m_fieldfarelaw7_MetricTurntttttthtb K (a 0) (a 1) (a 2) (a 3) (a 10) (a 11) (a 12) (a 13) (a 14) (a 15) H) (m_fieldfarelaw7_MetricTurntttttt_k K)) a H := congrArg (fun k : KE => codeP PP CC (subC (bodyC PP 5) [1, 1, 1, 1, 1, 1, 0, 0]) (exP k (m_fieldfarelaw7_MetricTurntttttt_k K)) a H) (funext fun a => funext fun H => m_fieldfarelaw7_MetricTurnttttttht_eq K a H)
  have h2b : codeP PP CC (subC (bodyC PP 5) [1, 1, 1, 1, 1, 1, 0, 0]) (exP (fun (a : TE) (H : AH) => m_fieldfarelaw7_MetricTurntttttthtb K (a 0) (a 1) (a 2) (a 3) (a 10) (a 11) (a 12) (a 13) (a 14) (a 15) H) (m_fieldfarelaw7_MetricTurntttttt_k K)) a H = codeP PP CC (subC (bodyC PP 5) [1, 1, 1, 1, 1, 1, 0, 0]) (m_fieldfarelaw7_MetricTurntttttth_k K) a H := by kernel_rfl
  have h3 : codeP PP CC (subC (bodyC PP 5) [1, 1, 1, 1, 1, 1, 0, 0]) (m_fieldfarelaw7_MetricTurntttttth_k K) a H = m_fieldfarelaw7_MetricTurntttttth K (a 0) (a 1) (a 2) (a 3) (a 10) (a 11) (a 12) (a 13) (a 14) H := by kernel_rfl
  ((h1.trans h2).trans h2b).trans h3
theorem m_fieldfarelaw7_MetricTurntttttt_eq (K : AV → AH → Prop) (a : TE) (H : AH) : codeP PP CC (subC (bodyC PP 5) [1, 1, 1, 1, 1, 1]) (m_fieldfarelaw7_MetricTurn_K K) a H = m_fieldfarelaw7_MetricTurntttttth K (a 0) (a 1) (a 2) (a 3) (a 10) (a 11) (a 12) (a 13) (a 14) H :=
  have h1 : codeP PP CC (subC (bodyC PP 5) [1, 1, 1, 1, 1, 1]) (m_fieldfarelaw7_MetricTurn_K K) a H = codeP PP CC (subC (bodyC PP 5) [1, 1, 1, 1, 1, 1, 0]) (exP (codeP PP CC (subC (bodyC PP 5) [1, 1, 1, 1, 1, 1, 1]) (m_fieldfarelaw7_MetricTurn_K K)) (m_fieldfarelaw7_MetricTurn_K K)) a H := by kernel_rfl
  have h2 : codeP PP CC (subC (bodyC PP 5) [1, 1, 1, 1, 1, 1, 0]) (exP (codeP PP CC (subC (bodyC PP 5) [1, 1, 1, 1, 1, 1, 1]) (m_fieldfarelaw7_MetricTurn_K K)) (m_fieldfarelaw7_MetricTurn_K K)) a H = codeP PP CC (subC (bodyC PP 5) [1, 1, 1, 1, 1, 1, 0]) (exP (fun (a : TE) (H : AH) => m_fieldfarelaw7_MetricTurnttttttt K (a 3) (a 10) (a 11) (a 13) (a 14) H) (m_fieldfarelaw7_MetricTurn_K K)) a H := congrArg (fun k : KE => codeP PP CC (subC (bodyC PP 5) [1, 1, 1, 1, 1, 1, 0]) (exP k (m_fieldfarelaw7_MetricTurn_K K)) a H) (funext fun a => funext fun H => m_fieldfarelaw7_MetricTurnttttttt_eq K a H)
  have h2b : codeP PP CC (subC (bodyC PP 5) [1, 1, 1, 1, 1, 1, 0]) (exP (fun (a : TE) (H : AH) => m_fieldfarelaw7_MetricTurnttttttt K (a 3) (a 10) (a 11) (a 13) (a 14) H) (m_fieldfarelaw7_MetricTurn_K K)) a H = codeP PP CC (subC (bodyC PP 5) [1, 1, 1, 1, 1, 1, 0]) (m_fieldfarelaw7_MetricTurntttttt_k K) a H := by kernel_rfl
  ((h1.trans h2).trans h2b).trans (m_fieldfarelaw7_MetricTurntttttth_eq K a H)
abbrev m_fieldfarelaw7_MetricTurnttttt_k (K : AV → AH → Prop) : KP := exP (fun (a : TE) (H : AH) => m_fieldfarelaw7_MetricTurntttttth K (a 0) (a 1) (a 2) (a 3) (a 10) (a 11) (a 12) (a 13) (a 14) H) (m_fieldfarelaw7_MetricTurn_K K)
def m_fieldfarelaw7_MetricTurnttttt (K : AV → AH → Prop) (x0 x1 x2 x3 x10 x11 x12 : AV) (H : AH) : Prop :=
  outP CC (H.more 2) (w_makeSlice PP 21 (H.more 2) (.int .i64 4) (.int .i64 4) (some (Nat.add H.next 0))) fun v1 H1 =>
  outP CC H1 (w_makeSlice PP 21 H1 (.int .i64 4) (.int .i64 4) (some (Nat.add H.next 1))) fun v2 H2 =>
  m_fieldfarelaw7_MetricTurntttttth K x0 x1 x2 x3 x10 x11 x12 v1 v2 H2
theorem m_fieldfarelaw7_MetricTurnttttt_eq (K : AV → AH → Prop) (a : TE) (H : AH) : codeP PP CC (subC (bodyC PP 5) [1, 1, 1, 1, 1]) (m_fieldfarelaw7_MetricTurn_K K) a H = m_fieldfarelaw7_MetricTurnttttt K (a 0) (a 1) (a 2) (a 3) (a 10) (a 11) (a 12) H :=
  have h1 : codeP PP CC (subC (bodyC PP 5) [1, 1, 1, 1, 1]) (m_fieldfarelaw7_MetricTurn_K K) a H = codeP PP CC (subC (bodyC PP 5) [1, 1, 1, 1, 1, 0]) (exP (codeP PP CC (subC (bodyC PP 5) [1, 1, 1, 1, 1, 1]) (m_fieldfarelaw7_MetricTurn_K K)) (m_fieldfarelaw7_MetricTurn_K K)) a H := by kernel_rfl
  have h2 : codeP PP CC (subC (bodyC PP 5) [1, 1, 1, 1, 1, 0]) (exP (codeP PP CC (subC (bodyC PP 5) [1, 1, 1, 1, 1, 1]) (m_fieldfarelaw7_MetricTurn_K K)) (m_fieldfarelaw7_MetricTurn_K K)) a H = codeP PP CC (subC (bodyC PP 5) [1, 1, 1, 1, 1, 0]) (exP (fun (a : TE) (H : AH) => m_fieldfarelaw7_MetricTurntttttth K (a 0) (a 1) (a 2) (a 3) (a 10) (a 11) (a 12) (a 13) (a 14) H) (m_fieldfarelaw7_MetricTurn_K K)) a H := congrArg (fun k : KE => codeP PP CC (subC (bodyC PP 5) [1, 1, 1, 1, 1, 0]) (exP k (m_fieldfarelaw7_MetricTurn_K K)) a H) (funext fun a => funext fun H => m_fieldfarelaw7_MetricTurntttttt_eq K a H)
  have h2b : codeP PP CC (subC (bodyC PP 5) [1, 1, 1, 1, 1, 0]) (exP (fun (a : TE) (H : AH) => m_fieldfarelaw7_MetricTurntttttth K (a 0) (a 1) (a 2) (a 3) (a 10) (a 11) (a 12) (a 13) (a 14) H) (m_fieldfarelaw7_MetricTurn_K K)) a H = codeP PP CC (subC (bodyC PP 5) [1, 1, 1, 1, 1, 0]) (m_fieldfarelaw7_MetricTurnttttt_k K) a H := by kernel_rfl
  have h3 : codeP PP CC (subC (bodyC PP 5) [1, 1, 1, 1, 1, 0]) (m_fieldfarelaw7_MetricTurnttttt_k K) a H = m_fieldfarelaw7_MetricTurnttttt K (a 0) (a 1) (a 2) (a 3) (a 10) (a 11) (a 12) H := by kernel_rfl
  ((h1.trans h2).trans h2b).trans h3
abbrev m_fieldfarelaw7_MetricTurntttt_k (K : AV → AH → Prop) : KP := exP (fun (a : TE) (H : AH) => m_fieldfarelaw7_MetricTurnttttt K (a 0) (a 1) (a 2) (a 3) (a 10) (a 11) (a 12) H) (m_fieldfarelaw7_MetricTurn_K K)
def m_fieldfarelaw7_MetricTurntttt (K : AV → AH → Prop) (x0 x1 x2 x3 : AV) (H : AH) : Prop :=
  outP CC (H.more 3) (w_makeSlice PP 21 (H.more 3) (.int .i64 4) (.int .i64 4) (some (Nat.add H.next 0))) fun v1 H1 =>
  outP CC H1 (w_makeSlice PP 21 H1 (.int .i64 4) (.int .i64 4) (some (Nat.add H.next 1))) fun v2 H2 =>
  outP CC H2 (w_makeSlice PP 21 H2 (.int .i64 4) (.int .i64 4) (some (Nat.add H.next 2))) fun v3 H3 =>
  m_fieldfarelaw7_MetricTurnttttt K x0 x1 x2 x3 v1 v2 v3 H3
theorem m_fieldfarelaw7_MetricTurntttt_eq (K : AV → AH → Prop) (a : TE) (H : AH) : codeP PP CC (subC (bodyC PP 5) [1, 1, 1, 1]) (m_fieldfarelaw7_MetricTurn_K K) a H = m_fieldfarelaw7_MetricTurntttt K (a 0) (a 1) (a 2) (a 3) H :=
  have h1 : codeP PP CC (subC (bodyC PP 5) [1, 1, 1, 1]) (m_fieldfarelaw7_MetricTurn_K K) a H = codeP PP CC (subC (bodyC PP 5) [1, 1, 1, 1, 0]) (exP (codeP PP CC (subC (bodyC PP 5) [1, 1, 1, 1, 1]) (m_fieldfarelaw7_MetricTurn_K K)) (m_fieldfarelaw7_MetricTurn_K K)) a H := by kernel_rfl
  have h2 : codeP PP CC (subC (bodyC PP 5) [1, 1, 1, 1, 0]) (exP (codeP PP CC (subC (bodyC PP 5) [1, 1, 1, 1, 1]) (m_fieldfarelaw7_MetricTurn_K K)) (m_fieldfarelaw7_MetricTurn_K K)) a H = codeP PP CC (subC (bodyC PP 5) [1, 1, 1, 1, 0]) (exP (fun (a : TE) (H : AH) => m_fieldfarelaw7_MetricTurnttttt K (a 0) (a 1) (a 2) (a 3) (a 10) (a 11) (a 12) H) (m_fieldfarelaw7_MetricTurn_K K)) a H := congrArg (fun k : KE => codeP PP CC (subC (bodyC PP 5) [1, 1, 1, 1, 0]) (exP k (m_fieldfarelaw7_MetricTurn_K K)) a H) (funext fun a => funext fun H => m_fieldfarelaw7_MetricTurnttttt_eq K a H)
  have h2b : codeP PP CC (subC (bodyC PP 5) [1, 1, 1, 1, 0]) (exP (fun (a : TE) (H : AH) => m_fieldfarelaw7_MetricTurnttttt K (a 0) (a 1) (a 2) (a 3) (a 10) (a 11) (a 12) H) (m_fieldfarelaw7_MetricTurn_K K)) a H = codeP PP CC (subC (bodyC PP 5) [1, 1, 1, 1, 0]) (m_fieldfarelaw7_MetricTurntttt_k K) a H := by kernel_rfl
  have h3 : codeP PP CC (subC (bodyC PP 5) [1, 1, 1, 1, 0]) (m_fieldfarelaw7_MetricTurntttt_k K) a H = m_fieldfarelaw7_MetricTurntttt K (a 0) (a 1) (a 2) (a 3) H := by kernel_rfl
  ((h1.trans h2).trans h2b).trans h3
abbrev m_fieldfarelaw7_MetricTurnttt_k (K : AV → AH → Prop) : KP := exP (fun (a : TE) (H : AH) => m_fieldfarelaw7_MetricTurntttt K (a 0) (a 1) (a 2) (a 3) H) (m_fieldfarelaw7_MetricTurn_K K)
def m_fieldfarelaw7_MetricTurnttt (K : AV → AH → Prop) (x0 x1 x2 x3 : AV) (H : AH) : Prop :=
  outP CC H (w_int .rem H x3 (.int .i32 9)) fun v1 H1 =>
  m_fieldfarelaw7_MetricTurntttt K x0 x1 x2 v1 H1
theorem m_fieldfarelaw7_MetricTurnttt_eq (K : AV → AH → Prop) (a : TE) (H : AH) : codeP PP CC (subC (bodyC PP 5) [1, 1, 1]) (m_fieldfarelaw7_MetricTurn_K K) a H = m_fieldfarelaw7_MetricTurnttt K (a 0) (a 1) (a 2) (a 3) H :=
  have h1 : codeP PP CC (subC (bodyC PP 5) [1, 1, 1]) (m_fieldfarelaw7_MetricTurn_K K) a H = codeP PP CC (subC (bodyC PP 5) [1, 1, 1, 0]) (exP (codeP PP CC (subC (bodyC PP 5) [1, 1, 1, 1]) (m_fieldfarelaw7_MetricTurn_K K)) (m_fieldfarelaw7_MetricTurn_K K)) a H := by kernel_rfl
  have h2 : codeP PP CC (subC (bodyC PP 5) [1, 1, 1, 0]) (exP (codeP PP CC (subC (bodyC PP 5) [1, 1, 1, 1]) (m_fieldfarelaw7_MetricTurn_K K)) (m_fieldfarelaw7_MetricTurn_K K)) a H = codeP PP CC (subC (bodyC PP 5) [1, 1, 1, 0]) (exP (fun (a : TE) (H : AH) => m_fieldfarelaw7_MetricTurntttt K (a 0) (a 1) (a 2) (a 3) H) (m_fieldfarelaw7_MetricTurn_K K)) a H := congrArg (fun k : KE => codeP PP CC (subC (bodyC PP 5) [1, 1, 1, 0]) (exP k (m_fieldfarelaw7_MetricTurn_K K)) a H) (funext fun a => funext fun H => m_fieldfarelaw7_MetricTurntttt_eq K a H)
  have h2b : codeP PP CC (subC (bodyC PP 5) [1, 1, 1, 0]) (exP (fun (a : TE) (H : AH) => m_fieldfarelaw7_MetricTurntttt K (a 0) (a 1) (a 2) (a 3) H) (m_fieldfarelaw7_MetricTurn_K K)) a H = codeP PP CC (subC (bodyC PP 5) [1, 1, 1, 0]) (m_fieldfarelaw7_MetricTurnttt_k K) a H := by kernel_rfl
  have h3 : codeP PP CC (subC (bodyC PP 5) [1, 1, 1, 0]) (m_fieldfarelaw7_MetricTurnttt_k K) a H = m_fieldfarelaw7_MetricTurnttt K (a 0) (a 1) (a 2) (a 3) H := by kernel_rfl
  ((h1.trans h2).trans h2b).trans h3
abbrev m_fieldfarelaw7_MetricTurntt_k (K : AV → AH → Prop) : KP := exP (fun (a : TE) (H : AH) => m_fieldfarelaw7_MetricTurnttt K (a 0) (a 1) (a 2) (a 3) H) (m_fieldfarelaw7_MetricTurn_K K)
def m_fieldfarelaw7_MetricTurntt (K : AV → AH → Prop) (x0 x1 x2 x3 x9 : AV) (H : AH) : Prop :=
  outP CC H (w_un .not H x9) fun v1 H1 =>
  condP v1
  (K (.bool false) H1)
  (m_fieldfarelaw7_MetricTurnttt K x0 x1 x2 x3 H1)
theorem m_fieldfarelaw7_MetricTurntt_eq (K : AV → AH → Prop) (a : TE) (H : AH) : codeP PP CC (subC (bodyC PP 5) [1, 1]) (m_fieldfarelaw7_MetricTurn_K K) a H = m_fieldfarelaw7_MetricTurntt K (a 0) (a 1) (a 2) (a 3) (a 9) H :=
  have h1 : codeP PP CC (subC (bodyC PP 5) [1, 1]) (m_fieldfarelaw7_MetricTurn_K K) a H = codeP PP CC (subC (bodyC PP 5) [1, 1, 0]) (exP (codeP PP CC (subC (bodyC PP 5) [1, 1, 1]) (m_fieldfarelaw7_MetricTurn_K K)) (m_fieldfarelaw7_MetricTurn_K K)) a H := by kernel_rfl
  have h2 : codeP PP CC (subC (bodyC PP 5) [1, 1, 0]) (exP (codeP PP CC (subC (bodyC PP 5) [1, 1, 1]) (m_fieldfarelaw7_MetricTurn_K K)) (m_fieldfarelaw7_MetricTurn_K K)) a H = codeP PP CC (subC (bodyC PP 5) [1, 1, 0]) (exP (fun (a : TE) (H : AH) => m_fieldfarelaw7_MetricTurnttt K (a 0) (a 1) (a 2) (a 3) H) (m_fieldfarelaw7_MetricTurn_K K)) a H := congrArg (fun k : KE => codeP PP CC (subC (bodyC PP 5) [1, 1, 0]) (exP k (m_fieldfarelaw7_MetricTurn_K K)) a H) (funext fun a => funext fun H => m_fieldfarelaw7_MetricTurnttt_eq K a H)
  have h2b : codeP PP CC (subC (bodyC PP 5) [1, 1, 0]) (exP (fun (a : TE) (H : AH) => m_fieldfarelaw7_MetricTurnttt K (a 0) (a 1) (a 2) (a 3) H) (m_fieldfarelaw7_MetricTurn_K K)) a H = codeP PP CC (subC (bodyC PP 5) [1, 1, 0]) (m_fieldfarelaw7_MetricTurntt_k K) a H := by kernel_rfl
  have h3 : codeP PP CC (subC (bodyC PP 5) [1, 1, 0]) (m_fieldfarelaw7_MetricTurntt_k K) a H = m_fieldfarelaw7_MetricTurntt K (a 0) (a 1) (a 2) (a 3) (a 9) H := by kernel_rfl
  ((h1.trans h2).trans h2b).trans h3
abbrev m_fieldfarelaw7_MetricTurnt_k (K : AV → AH → Prop) : KP := exP (fun (a : TE) (H : AH) => m_fieldfarelaw7_MetricTurntt K (a 0) (a 1) (a 2) (a 3) (a 9) H) (m_fieldfarelaw7_MetricTurn_K K)
def m_fieldfarelaw7_MetricTurnt (K : AV → AH → Prop) (x0 x1 x2 x3 : AV) (H : AH) : Prop :=
  outP CC H (some (.enter 10 [])) fun v1 H1 =>
  m_fieldfarelaw7_MetricTurntt K x0 x1 x2 x3 v1 H1
theorem m_fieldfarelaw7_MetricTurnt_eq (K : AV → AH → Prop) (a : TE) (H : AH) : codeP PP CC (subC (bodyC PP 5) [1]) (m_fieldfarelaw7_MetricTurn_K K) a H = m_fieldfarelaw7_MetricTurnt K (a 0) (a 1) (a 2) (a 3) H :=
  have h1 : codeP PP CC (subC (bodyC PP 5) [1]) (m_fieldfarelaw7_MetricTurn_K K) a H = codeP PP CC (subC (bodyC PP 5) [1, 0]) (exP (codeP PP CC (subC (bodyC PP 5) [1, 1]) (m_fieldfarelaw7_MetricTurn_K K)) (m_fieldfarelaw7_MetricTurn_K K)) a H := by kernel_rfl
  have h2 : codeP PP CC (subC (bodyC PP 5) [1, 0]) (exP (codeP PP CC (subC (bodyC PP 5) [1, 1]) (m_fieldfarelaw7_MetricTurn_K K)) (m_fieldfarelaw7_MetricTurn_K K)) a H = codeP PP CC (subC (bodyC PP 5) [1, 0]) (exP (fun (a : TE) (H : AH) => m_fieldfarelaw7_MetricTurntt K (a 0) (a 1) (a 2) (a 3) (a 9) H) (m_fieldfarelaw7_MetricTurn_K K)) a H := congrArg (fun k : KE => codeP PP CC (subC (bodyC PP 5) [1, 0]) (exP k (m_fieldfarelaw7_MetricTurn_K K)) a H) (funext fun a => funext fun H => m_fieldfarelaw7_MetricTurntt_eq K a H)
  have h2b : codeP PP CC (subC (bodyC PP 5) [1, 0]) (exP (fun (a : TE) (H : AH) => m_fieldfarelaw7_MetricTurntt K (a 0) (a 1) (a 2) (a 3) (a 9) H) (m_fieldfarelaw7_MetricTurn_K K)) a H = codeP PP CC (subC (bodyC PP 5) [1, 0]) (m_fieldfarelaw7_MetricTurnt_k K) a H := by kernel_rfl
  have h3 : codeP PP CC (subC (bodyC PP 5) [1, 0]) (m_fieldfarelaw7_MetricTurnt_k K) a H = m_fieldfarelaw7_MetricTurnt K (a 0) (a 1) (a 2) (a 3) H := by kernel_rfl
  ((h1.trans h2).trans h2b).trans h3
abbrev m_fieldfarelaw7_MetricTurn_k (K : AV → AH → Prop) : KP := exP (fun (a : TE) (H : AH) => m_fieldfarelaw7_MetricTurnt K (a 0) (a 1) (a 2) (a 3) H) (m_fieldfarelaw7_MetricTurn_K K)
def m_fieldfarelaw7_MetricTurn (K : AV → AH → Prop) (x0 x1 x2 x3 : AV) (H : AH) : Prop :=
  m_fieldfarelaw7_MetricTurnt K x0 x1 x2 x3 H
theorem m_fieldfarelaw7_MetricTurn_eq (K : AV → AH → Prop) (a : TE) (H : AH) : codeP PP CC (subC (bodyC PP 5) []) (m_fieldfarelaw7_MetricTurn_K K) a H = m_fieldfarelaw7_MetricTurn K (a 0) (a 1) (a 2) (a 3) H :=
  have h1 : codeP PP CC (subC (bodyC PP 5) []) (m_fieldfarelaw7_MetricTurn_K K) a H = codeP PP CC (subC (bodyC PP 5) [0]) (exP (codeP PP CC (subC (bodyC PP 5) [1]) (m_fieldfarelaw7_MetricTurn_K K)) (m_fieldfarelaw7_MetricTurn_K K)) a H := by kernel_rfl
  have h2 : codeP PP CC (subC (bodyC PP 5) [0]) (exP (codeP PP CC (subC (bodyC PP 5) [1]) (m_fieldfarelaw7_MetricTurn_K K)) (m_fieldfarelaw7_MetricTurn_K K)) a H = codeP PP CC (subC (bodyC PP 5) [0]) (exP (fun (a : TE) (H : AH) => m_fieldfarelaw7_MetricTurnt K (a 0) (a 1) (a 2) (a 3) H) (m_fieldfarelaw7_MetricTurn_K K)) a H := congrArg (fun k : KE => codeP PP CC (subC (bodyC PP 5) [0]) (exP k (m_fieldfarelaw7_MetricTurn_K K)) a H) (funext fun a => funext fun H => m_fieldfarelaw7_MetricTurnt_eq K a H)
  have h2b : codeP PP CC (subC (bodyC PP 5) [0]) (exP (fun (a : TE) (H : AH) => m_fieldfarelaw7_MetricTurnt K (a 0) (a 1) (a 2) (a 3) H) (m_fieldfarelaw7_MetricTurn_K K)) a H = codeP PP CC (subC (bodyC PP 5) [0]) (m_fieldfarelaw7_MetricTurn_k K) a H := by kernel_rfl
  have h3 : codeP PP CC (subC (bodyC PP 5) [0]) (m_fieldfarelaw7_MetricTurn_k K) a H = m_fieldfarelaw7_MetricTurn K (a 0) (a 1) (a 2) (a 3) H := by kernel_rfl
  ((h1.trans h2).trans h2b).trans h3
theorem m_fieldfarelaw7_MetricTurn_ok (x0 x1 x2 x3 : AV) (H : AH) (K : AV → AH → Prop) (h : m_fieldfarelaw7_MetricTurn K x0 x1 x2 x3 H) : CC.call 5 [x0, x1, x2, x3] H K :=
  have h1 : funP PP CC 5 [x0, x1, x2, x3] H K = codeP PP CC (subC (bodyC PP 5) []) (m_fieldfarelaw7_MetricTurn_K K) (argE [x0, x1, x2, x3]) H := by kernel_rfl
  have h2 : m_fieldfarelaw7_MetricTurn K (argE [x0, x1, x2, x3] 0) (argE [x0, x1, x2, x3] 1) (argE [x0, x1, x2, x3] 2) (argE [x0, x1, x2, x3] 3) H = m_fieldfarelaw7_MetricTurn K x0 x1 x2 x3 H := by kernel_rfl
  funP_ok (P := PP) (by kernel_rfl) (by kernel_rfl) ((h1.trans ((m_fieldfarelaw7_MetricTurn_eq K (argE [x0, x1, x2, x3]) H).trans h2)).mpr h)

end
end Go.Ab
