/- What functions do, said as what the evaluator does. Printed by a program. -/
import Derived.Test.YtjpjmeidpjjgdaaGreatDoorBeg
import Derived.Test.YtjpjmeidpjjgdaaGreatDoorEv3
namespace Go.Ab
noncomputable section
open Go.Proofs
set_option maxRecDepth 100000



/-! 4: fieldfare/fieldfarelaw7.MeansAll -/
abbrev m_fieldfarelaw7_MeansAll_K (K : AV → AH → Prop) : KP := finP PP (resC PP 4) K
abbrev m_fieldfarelaw7_MeansAllttttttttttt_k (K : AV → AH → Prop) : KP := exP (codeP PP CC (subC (bodyC PP 4) [1, 1, 1, 1, 1, 1, 1, 1, 1, 1, 1, 1]) (m_fieldfarelaw7_MeansAll_K K)) (m_fieldfarelaw7_MeansAll_K K)
abbrev m_fieldfarelaw7_MeansAlltttttttttttht_k (K : AV → AH → Prop) : KP := blockP 2 (m_fieldfarelaw7_MeansAllttttttttttt_k K)
abbrev m_fieldfarelaw7_MeansAllttttttttttthtb_k (K : AV → AH → Prop) (r0 : (AV × AV × AV × AV × AV × AV × AV) → AH → Prop) : KP := exP (fun (a : TE) (H : AH) => r0 (a 4, a 12, a 13, a 16, a 17, a 89, a 90) H) (m_fieldfarelaw7_MeansAlltttttttttttht_k K)
def m_fieldfarelaw7_MeansAllttttttttttthtbl (K : AV → AH → Prop) (r0 : (AV × AV × AV × AV × AV × AV × AV) → AH → Prop) (x4 x12 x13 x16 x17 x89 x90 : AV) (H : AH) : Prop :=
  outP CC H (w_int .lss H x90 x89) fun v1 H1 =>
  condP v1
  (outP CC H1 (w_indexAddr (.sl 1) H1 x16 x90) fun v2 H2 =>
  outP CC H2 (w_load none H2 v2) fun v3 H3 =>
  outP CC H3 (w_indexAddr (.sl 1) H3 x17 x90) fun v4 H4 =>
  outP CC H4 (w_load none H4 v4) fun v5 H5 =>
  outP CC H5 (w_int .neq H5 v3 v5) fun v6 H6 =>
  condP v6
  (K (.bool false) H6)
  (outP CC H6 (w_int .add H6 x90 (.int .i64 1)) fun v7 H7 =>
  r0 (x4, x12, x13, x16, x17, x89, v7) H7))
  (outP CC H1 (w_len PP 33 H1 x16) fun v8 H8 =>
  outP CC H8 (w_int .eql H8 v8 (.int .i64 0)) fun v9 H9 =>
  guardP (boolIs true v9) H9 (outP CC H9 (some (.val x12 H9))) fun v10 H10 =>
  guardP (boolIs true v9) H10 (outP CC H10 (w_len PP 36 H10 v10)) fun v11 H11 =>
  guardP (boolIs true v9) H11 (outP CC H11 (w_int .eql H11 v11 (.int .i64 0))) fun v12 H12 =>
  outP CC H12 (w_pick H12 v9 v12 (.bool false)) fun v13 H13 =>
  guardP (boolIs false v13) H13 (outP CC H13 (some (.val x16 H13))) fun v14 H14 =>
  guardP (boolIs false v13) H14 (outP CC H14 (w_len PP 33 H14 v14)) fun v15 H15 =>
  guardP (boolIs false v13) H15 (outP CC H15 (w_int .gtr H15 v15 (.int .i64 0))) fun v16 H16 =>
  guardP (boolIs false v13) H16 (outP CC H16 (some (.val v16 H16))) fun v17 H17 =>
  guardP (boolIs true v17) H17 (outP CC H17 (some (.val x16 H17))) fun v18 H18 =>
  guardP (boolIs true v17) H18 (outP CC H18 (w_indexAddr (.sl 1) H18 v18 (.int .i64 0))) fun v19 H19 =>
  guardP (boolIs true v17) H19 (outP CC H19 (w_load none H19 v19)) fun v20 H20 =>
  guardP (boolIs true v17) H20 (outP CC H20 (some (.val x13 H20))) fun v21 H21 =>
  guardP (boolIs true v17) H21 (outP CC H21 (some (.val x4 H21))) fun v22 H22 =>
  guardP (boolIs true v17) H22 (outP CC H22 (some (.enter 29 [v21, v22]))) fun v23 H23 =>
  ckP (reC (boolIs true v17) (w_load none H23 v19) v20) <|
  guardP (boolIs true v17) H23 (outP CC H23 (w_int .eql H23 v20 v23)) fun v24 H24 =>
  guardP (boolIs false v13) H24 (outP CC H24 (w_pick H24 v17 v24 (.bool false))) fun v25 H25 =>
  outP CC H25 (w_pick H25 v13 (.bool true) v25) fun v26 H26 =>
  K v26 H26)
theorem m_fieldfarelaw7_MeansAllttttttttttthtbl_eq (K : AV → AH → Prop) (r0 : (AV × AV × AV × AV × AV × AV × AV) → AH → Prop) (a : TE) (H : AH) : codeP PP CC (subC (bodyC PP 4) [1, 1, 1, 1, 1, 1, 1, 1, 1, 1, 1, 0, 1, 0, 0]) (m_fieldfarelaw7_MeansAllttttttttttthtb_k K r0) a H = m_fieldfarelaw7_MeansAllttttttttttthtbl K r0 (a 4) (a 12) (a 13) (a 16) (a 17) (a 89) (a 90) H :=
  by kernel_rfl
def m_fieldfarelaw7_MeansAllttttttttttthtb (K : AV → AH → Prop) (x4 x12 x13 x16 x17 x89 x90 : AV) (H : AH) : Prop :=
  loopP (fun (r0 : (AV × AV × AV × AV × AV × AV × AV) → AH → Prop) (s : (AV × AV × AV × AV × AV × AV × AV)) (H : AH) => m_fieldfarelaw7_MeansAllttttttttttthtbl K r0 s.1 s.2.1 s.2.2.1 s.2.2.2.1 s.2.2.2.2.1 s.2.2.2.2.2.1 s.2.2.2.2.2.2 H) (x4, x12, x13, x16, x17, x89, x90) H
theorem m_fieldfarelaw7_MeansAllttttttttttthtb_eq (K : AV → AH → Prop) (a : TE) (H : AH) : codeP PP CC (subC (bodyC PP 4) [1, 1, 1, 1, 1, 1, 1, 1, 1, 1, 1, 0, 1, 0]) (m_fieldfarelaw7_MeansAlltttttttttttht_k K) a H = m_fieldfarelaw7_MeansAllttttttttttthtb K (a 4) (a 12) (a 13) (a 16) (a 17) (a 89) (a 90) H :=
  have h1 : codeP PP CC (subC (bodyC PP 4) [1, 1, 1, 1, 1, 1, 1, 1, 1, 1, 1, 0, 1, 0]) (m_fieldfarelaw7_MeansAlltttttttttttht_k K) a H = loopP (fun (rec : KE) => codeP PP CC (subC (bodyC PP 4) [1, 1, 1, 1, 1, 1, 1, 1, 1, 1, 1, 0, 1, 0, 0]) (exP rec (m_fieldfarelaw7_MeansAlltttttttttttht_k K))) a H := by kernel_rfl
  have h2 := loopP_iso (F := fun (rec : KE) => codeP PP CC (subC (bodyC PP 4) [1, 1, 1, 1, 1, 1, 1, 1, 1, 1, 1, 0, 1, 0, 0]) (exP rec (m_fieldfarelaw7_MeansAlltttttttttttht_k K))) (S := (AV × AV × AV × AV × AV × AV × AV)) (fun a => (a 4, a 12, a 13, a 16, a 17, a 89, a 90)) (fun (r0 : (AV × AV × AV × AV × AV × AV × AV) → AH → Prop) (s : (AV × AV × AV × AV × AV × AV × AV)) (H : AH) => m_fieldfarelaw7_MeansAllttttttttttthtbl K r0 s.1 s.2.1 s.2.2.1 s.2.2.2.1 s.2.2.2.2.1 s.2.2.2.2.2.1 s.2.2.2.2.2.2 H) (fun (r0 : (AV × AV × AV × AV × AV × AV × AV) → AH → Prop) (a : TE) (H : AH) => (show codeP PP CC (subC (bodyC PP 4) [1, 1, 1, 1, 1, 1, 1, 1, 1, 1, 1, 0, 1, 0, 0]) (exP (fun (a : TE) (H : AH) => r0 (a 4, a 12, a 13, a 16, a 17, a 89, a 90) H) (m_fieldfarelaw7_MeansAlltttttttttttht_k K)) a H = codeP PP CC (subC (bodyC PP 4) [1, 1, 1, 1, 1, 1, 1, 1, 1, 1, 1, 0, 1, 0, 0]) (m_fieldfarelaw7_MeansAllttttttttttthtb_k K r0) a H from by kernel_rfl).trans (m_fieldfarelaw7_MeansAllttttttttttthtbl_eq K r0 a H)) a H
  h1.trans h2
theorem m_fieldfarelaw7_MeansAlltttttttttttht_eq (K : AV → AH → Prop) (a : TE) (H : AH) : codeP PP CC (subC (bodyC PP 4) [1, 1, 1, 1, 1, 1, 1, 1, 1, 1, 1, 0, 1]) (m_fieldfarelaw7_MeansAllttttttttttt_k K) a H = m_fieldfarelaw7_MeansAllttttttttttthtb K (a 4) (a 12) (a 13) (a 16) (a 17) (a 89) (a 90) H :=
  have h1 : codeP PP CC (subC (bodyC PP 4) [1, 1, 1, 1, 1, 1, 1, 1, 1, 1, 1, 0, 1]) (m_fieldfarelaw7_MeansAllttttttttttt_k K) a H = codeP PP CC (subC (bodyC PP 4) [1, 1, 1, 1, 1, 1, 1, 1, 1, 1, 1, 0, 1, 0]) (m_fieldfarelaw7_MeansAlltttttttttttht_k K) a H := by kernel_rfl
  h1.trans (m_fieldfarelaw7_MeansAllttttttttttthtb_eq K a H)
abbrev m_fieldfarelaw7_MeansAllttttttttttth_k (K : AV → AH → Prop) : KP := exP (fun (a : TE) (H : AH) => m_fieldfarelaw7_MeansAllttttttttttthtb K (a 4) (a 12) (a 13) (a 16) (a 17) (a 89) (a 90) H) (m_fieldfarelaw7_MeansAllttttttttttt_k K)
def m_fieldfarelaw7_MeansAllttttttttttth (K : AV → AH → Prop) (x4 x12 x13 x16 x17 : AV) (H : AH) : Prop :=
  outP CC H (w_len PP 33 H x16) fun v1 H1 =>
  m_fieldfarelaw7_MeansAllttttttttttthtb K x4 x12 x13 x16 x17 v1 (.int .i64 0) H1
theorem m_fieldfarelaw7_MeansAllttttttttttth_eq (K : AV → AH → Prop) (a : TE) (H : AH) : codeP PP CC (subC (bodyC PP 4) [1, 1, 1, 1, 1, 1, 1, 1, 1, 1, 1, 0]) (m_fieldfarelaw7_MeansAllttttttttttt_k K) a H = m_fieldfarelaw7_MeansAllttttttttttth K (a 4) (a 12) (a 13) (a 16) (a 17) H :=
  have h1 : codeP PP CC (subC (bodyC PP 4) [1, 1, 1, 1, 1, 1, 1, 1, 1, 1, 1, 0]) (m_fieldfarelaw7_MeansAllttttttttttt_k K) a H = codeP PP CC (subC (bodyC PP 4) [1, 1, 1, 1, 1, 1, 1, 1, 1, 1, 1, 0, 0]) (exP (codeP PP CC (subC (bodyC PP 4) [1, 1, 1, 1, 1, 1, 1, 1, 1, 1, 1, 0, 1]) (m_fieldfarelaw7_MeansAllttttttttttt_k K)) (m_fieldfarelaw7_MeansAllttttttttttt_k K)) a H := by kernel_rfl
  have h2 : codeP PP CC (subC (bodyC PP 4) [1, 1, 1, 1, 1, 1, 1, 1, 1, 1, 1, 0, 0]) (exP (codeP PP CC (subC (bodyC PP 4) [1, 1, 1, 1, 1, 1, 1, 1, 1, 1, 1, 0, 1]) (m_fieldfarelaw7_MeansAllttttttttttt_k K)) (m_fieldfarelaw7_MeansAllttttttttttt_k K)) a H = codeP PP CC (subC (bodyC PP 4) [1, 1, 1, 1, 1, 1, 1, 1, 1, 1, 1, 0, 0]) (exP (fun (a : TE) (H : AH) => m_fieldfarelaw7_MeansAllttttttttttthtb K (a 4) (a 12) (a 13) (a 16) (a 17) (a 89) (a 90) H) (m_fieldfarelaw7_MeansAllttttttttttt_k K)) a H := congrArg (fun k : KE => codeP PP CC (subC (bodyC PP 4) [1, 1, 1, 1, 1, 1, 1, 1, 1, 1, 1, 0, 0]) (exP k (m_fieldfarelaw7_MeansAllttttttttttt_k K)) a H) (funext fun a => funext fun H => m_fieldfarelaw7_MeansAlltttttttttttht_eq K a H)
  have h2b : codeP PP CC (subC (bodyC PP 4) [1, 1, 1, 1, 1, 1, 1, 1, 1, 1, 1, 0, 0]) (exP (fun (a : TE) (H : AH) => m_fieldfarelaw7_MeansAllttttttttttthtb K (a 4) (a 12) (a 13) (a 16) (a 17) (a 89) (a 90) H) (m_fieldfarelaw7_MeansAllttttttttttt_k K)) a H = codeP PP CC (subC (bodyC PP 4) [1, 1, 1, 1, 1, 1, 1, 1, 1, 1, 1, 0, 0]) (m_fieldfarelaw7_MeansAllttttttttttth_k K) a H := by kernel_rfl
  have h3 : codeP PP CC (subC (bodyC PP 4) [1, 1, 1, 1, 1, 1, 1, 1, 1, 1, 1, 0, 0]) (m_fieldfarelaw7_MeansAllttttttttttth_k K) a H = m_fieldfarelaw7_MeansAllttttttttttth K (a 4) (a 12) (a 13) (a 16) (a 17) H := by kernel_rfl
  ((h1.trans h2).trans h2b).trans h3
theorem m_fieldfarelaw7_MeansAllttttttttttt_eq (K : AV → AH → Prop) (a : TE) (H : AH) : codeP PP CC (subC (bodyC PP 4) [1, 1, 1, 1, 1, 1, 1, 1, 1, 1, 1]) (m_fieldfarelaw7_MeansAll_K K) a H = m_fieldfarelaw7_MeansAllttttttttttth K (a 4) (a 12) (a 13) (a 16) (a 17) H :=
  have h1 : codeP PP CC (subC (bodyC PP 4) [1, 1, 1, 1, 1, 1, 1, 1, 1, 1, 1]) (m_fieldfarelaw7_MeansAll_K K) a H = codeP PP CC (subC (bodyC PP 4) [1, 1, 1, 1, 1, 1, 1, 1, 1, 1, 1, 0]) (m_fieldfarelaw7_MeansAllttttttttttt_k K) a H := by kernel_rfl
  h1.trans (m_fieldfarelaw7_MeansAllttttttttttth_eq K a H)
abbrev m_fieldfarelaw7_MeansAlltttttttttt_k (K : AV → AH → Prop) : KP := exP (fun (a : TE) (H : AH) => m_fieldfarelaw7_MeansAllttttttttttth K (a 4) (a 12) (a 13) (a 16) (a 17) H) (m_fieldfarelaw7_MeansAll_K K)
def m_fieldfarelaw7_MeansAlltttttttttt (K : AV → AH → Prop) (x4 x12 x13 x14 x16 x17 : AV) (H : AH) : Prop :=
  outP CC H (w_len PP 33 H x16) fun v1 H1 =>
  outP CC H1 (w_len PP 33 H1 x17) fun v2 H2 =>
  outP CC H2 (w_int .neq H2 v1 v2) fun v3 H3 =>
  guardP (boolIs false v3) H3 (outP CC H3 (some (.val x13 H3))) fun v4 H4 =>
  guardP (boolIs false v3) H4 (outP CC H4 (some (.val x4 H4))) fun v5 H5 =>
  guardP (boolIs false v3) H5 (outP CC H5 (some (.enter 29 [v4, v5]))) fun v6 H6 =>
  guardP (boolIs false v3) H6 (outP CC H6 (some (.val x14 H6))) fun v7 H7 =>
  guardP (boolIs false v3) H7 (outP CC H7 (some (.val x4 H7))) fun v8 H8 =>
  guardP (boolIs false v3) H8 (outP CC H8 (some (.enter 30 [v7, v8]))) fun v9 H9 =>
  guardP (boolIs false v3) H9 (outP CC H9 (w_int .neq H9 v6 v9)) fun v10 H10 =>
  outP CC H10 (w_pick H10 v3 (.bool true) v10) fun v11 H11 =>
  condP v11
  (K (.bool false) H11)
  (m_fieldfarelaw7_MeansAllttttttttttth K x4 x12 x13 x16 x17 H11)
theorem m_fieldfarelaw7_MeansAlltttttttttt_eq (K : AV → AH → Prop) (a : TE) (H : AH) : codeP PP CC (subC (bodyC PP 4) [1, 1, 1, 1, 1, 1, 1, 1, 1, 1]) (m_fieldfarelaw7_MeansAll_K K) a H = m_fieldfarelaw7_MeansAlltttttttttt K (a 4) (a 12) (a 13) (a 14) (a 16) (a 17) H :=
  have h1 : codeP PP CC (subC (bodyC PP 4) [1, 1, 1, 1, 1, 1, 1, 1, 1, 1]) (m_fieldfarelaw7_MeansAll_K K) a H = codeP PP CC (subC (bodyC PP 4) [1, 1, 1, 1, 1, 1, 1, 1, 1, 1, 0]) (exP (codeP PP CC (subC (bodyC PP 4) [1, 1, 1, 1, 1, 1, 1, 1, 1, 1, 1]) (m_fieldfarelaw7_MeansAll_K K)) (m_fieldfarelaw7_MeansAll_K K)) a H := by kernel_rfl
  have h2 : codeP PP CC (subC (bodyC PP 4) [1, 1, 1, 1, 1, 1, 1, 1, 1, 1, 0]) (exP (codeP PP CC (subC (bodyC PP 4) [1, 1, 1, 1, 1, 1, 1, 1, 1, 1, 1]) (m_fieldfarelaw7_MeansAll_K K)) (m_fieldfarelaw7_MeansAll_K K)) a H = codeP PP CC (subC (bodyC PP 4) [1, 1, 1, 1, 1, 1, 1, 1, 1, 1, 0]) (exP (fun (a : TE) (H : AH) => m_fieldfarelaw7_MeansAllttttttttttth K (a 4) (a 12) (a 13) (a 16) (a 17) H) (m_fieldfarelaw7_MeansAll_K K)) a H := congrArg (fun k : KE => codeP PP CC (subC (bodyC PP 4) [1, 1, 1, 1, 1, 1, 1, 1, 1, 1, 0]) (exP k (m_fieldfarelaw7_MeansAll_K K)) a H) (funext fun a => funext fun H => m_fieldfarelaw7_MeansAllttttttttttt_eq K a H)
  have h2b : codeP PP CC (subC (bodyC PP 4) [1, 1, 1, 1, 1, 1, 1, 1, 1, 1, 0]) (exP (fun (a : TE) (H : AH) => m_fieldfarelaw7_MeansAllttttttttttth K (a 4) (a 12) (a 13) (a 16) (a 17) H) (m_fieldfarelaw7_MeansAll_K K)) a H = codeP PP CC (subC (bodyC PP 4) [1, 1, 1, 1, 1, 1, 1, 1, 1, 1, 0]) (m_fieldfarelaw7_MeansAlltttttttttt_k K) a H := by kernel_rfl
  have h3 : codeP PP CC (subC (bodyC PP 4) [1, 1, 1, 1, 1, 1, 1, 1, 1, 1, 0]) (m_fieldfarelaw7_MeansAlltttttttttt_k K) a H = m_fieldfarelaw7_MeansAlltttttttttt K (a 4) (a 12) (a 13) (a 14) (a 16) (a 17) H := by kernel_rfl
  ((h1.trans h2).trans h2b).trans h3
abbrev m_fieldfarelaw7_MeansAllttttttttt_k (K : AV → AH → Prop) : KP := exP (fun (a : TE) (H : AH) => m_fieldfarelaw7_MeansAlltttttttttt K (a 4) (a 12) (a 13) (a 14) (a 16) (a 17) H) (m_fieldfarelaw7_MeansAll_K K)
def m_fieldfarelaw7_MeansAllttttttttt (K : AV → AH → Prop) (x4 x12 x13 x14 : AV) (H : AH) : Prop :=
  outP CC H (some (.enter 27 [x13, x4])) fun v1 H1 =>
  outP CC H1 (some (.enter 28 [x14, x4])) fun v2 H2 =>
  m_fieldfarelaw7_MeansAlltttttttttt K x4 x12 x13 x14 v1 v2 H2
theorem m_fieldfarelaw7_MeansAllttttttttt_eq (K : AV → AH → Prop) (a : TE) (H : AH) : codeP PP CC (subC (bodyC PP 4) [1, 1, 1, 1, 1, 1, 1, 1, 1]) (m_fieldfarelaw7_MeansAll_K K) a H = m_fieldfarelaw7_MeansAllttttttttt K (a 4) (a 12) (a 13) (a 14) H :=
  have h1 : codeP PP CC (subC (bodyC PP 4) [1, 1, 1, 1, 1, 1, 1, 1, 1]) (m_fieldfarelaw7_MeansAll_K K) a H = codeP PP CC (subC (bodyC PP 4) [1, 1, 1, 1, 1, 1, 1, 1, 1, 0]) (exP (codeP PP CC (subC (bodyC PP 4) [1, 1, 1, 1, 1, 1, 1, 1, 1, 1]) (m_fieldfarelaw7_MeansAll_K K)) (m_fieldfarelaw7_MeansAll_K K)) a H := by kernel_rfl
  have h2 : codeP PP CC (subC (bodyC PP 4) [1, 1, 1, 1, 1, 1, 1, 1, 1, 0]) (exP (codeP PP CC (subC (bodyC PP 4) [1, 1, 1, 1, 1, 1, 1, 1, 1, 1]) (m_fieldfarelaw7_MeansAll_K K)) (m_fieldfarelaw7_MeansAll_K K)) a H = codeP PP CC (subC (bodyC PP 4) [1, 1, 1, 1, 1, 1, 1, 1, 1, 0]) (exP (fun (a : TE) (H : AH) => m_fieldfarelaw7_MeansAlltttttttttt K (a 4) (a 12) (a 13) (a 14) (a 16) (a 17) H) (m_fieldfarelaw7_MeansAll_K K)) a H := congrArg (fun k : KE => codeP PP CC (subC (bodyC PP 4) [1, 1, 1, 1, 1, 1, 1, 1, 1, 0]) (exP k (m_fieldfarelaw7_MeansAll_K K)) a H) (funext fun a => funext fun H => m_fieldfarelaw7_MeansAlltttttttttt_eq K a H)
  have h2b : codeP PP CC (subC (bodyC PP 4) [1, 1, 1, 1, 1, 1, 1, 1, 1, 0]) (exP (fun (a : TE) (H : AH) => m_fieldfarelaw7_MeansAlltttttttttt K (a 4) (a 12) (a 13) (a 14) (a 16) (a 17) H) (m_fieldfarelaw7_MeansAll_K K)) a H = codeP PP CC (subC (bodyC PP 4) [1, 1, 1, 1, 1, 1, 1, 1, 1, 0]) (m_fieldfarelaw7_MeansAllttttttttt_k K) a H := by kernel_rfl
  have h3 : codeP PP CC (subC (bodyC PP 4) [1, 1, 1, 1, 1, 1, 1, 1, 1, 0]) (m_fieldfarelaw7_MeansAllttttttttt_k K) a H = m_fieldfarelaw7_MeansAllttttttttt K (a 4) (a 12) (a 13) (a 14) H := by kernel_rfl
  ((h1.trans h2).trans h2b).trans h3
abbrev m_fieldfarelaw7_MeansAlltttttttt_k (K : AV → AH → Prop) : KP := exP (fun (a : TE) (H : AH) => m_fieldfarelaw7_MeansAllttttttttt K (a 4) (a 12) (a 13) (a 14) H) (m_fieldfarelaw7_MeansAll_K K)
def m_fieldfarelaw7_MeansAlltttttttt (K : AV → AH → Prop) (x2 x4 x12 x13 x14 : AV) (H : AH) : Prop :=
  outP CC H (some (.enter 26 [x4, x2])) fun v1 H1 =>
  m_fieldfarelaw7_MeansAllttttttttt K v1 x12 x13 x14 H1
theorem m_fieldfarelaw7_MeansAlltttttttt_eq (K : AV → AH → Prop) (a : TE) (H : AH) : codeP PP CC (subC (bodyC PP 4) [1, 1, 1, 1, 1, 1, 1, 1]) (m_fieldfarelaw7_MeansAll_K K) a H = m_fieldfarelaw7_MeansAlltttttttt K (a 2) (a 4) (a 12) (a 13) (a 14) H :=
  have h1 : codeP PP CC (subC (bodyC PP 4) [1, 1, 1, 1, 1, 1, 1, 1]) (m_fieldfarelaw7_MeansAll_K K) a H = codeP PP CC (subC (bodyC PP 4) [1, 1, 1, 1, 1, 1, 1, 1, 0]) (exP (codeP PP CC (subC (bodyC PP 4) [1, 1, 1, 1, 1, 1, 1, 1, 1]) (m_fieldfarelaw7_MeansAll_K K)) (m_fieldfarelaw7_MeansAll_K K)) a H := by kernel_rfl
  have h2 : codeP PP CC (subC (bodyC PP 4) [1, 1, 1, 1, 1, 1, 1, 1, 0]) (exP (codeP PP CC (subC (bodyC PP 4) [1, 1, 1, 1, 1, 1, 1, 1, 1]) (m_fieldfarelaw7_MeansAll_K K)) (m_fieldfarelaw7_MeansAll_K K)) a H = codeP PP CC (subC (bodyC PP 4) [1, 1, 1, 1, 1, 1, 1, 1, 0]) (exP (fun (a : TE) (H : AH) => m_fieldfarelaw7_MeansAllttttttttt K (a 4) (a 12) (a 13) (a 14) H) (m_fieldfarelaw7_MeansAll_K K)) a H := congrArg (fun k : KE => codeP PP CC (subC (bodyC PP 4) [1, 1, 1, 1, 1, 1, 1, 1, 0]) (exP k (m_fieldfarelaw7_MeansAll_K K)) a H) (funext fun a => funext fun H => m_fieldfarelaw7_MeansAllttttttttt_eq K a H)
  have h2b : codeP PP CC (subC (bodyC PP 4) [1, 1, 1, 1, 1, 1, 1, 1, 0]) (exP (fun (a : TE) (H : AH) => m_fieldfarelaw7_MeansAllttttttttt K (a 4) (a 12) (a 13) (a 14) H) (m_fieldfarelaw7_MeansAll_K K)) a H = codeP PP CC (subC (bodyC PP 4) [1, 1, 1, 1, 1, 1, 1, 1, 0]) (m_fieldfarelaw7_MeansAlltttttttt_k K) a H := by kernel_rfl
  have h3 : codeP PP CC (subC (bodyC PP 4) [1, 1, 1, 1, 1, 1, 1, 1, 0]) (m_fieldfarelaw7_MeansAlltttttttt_k K) a H = m_fieldfarelaw7_MeansAlltttttttt K (a 2) (a 4) (a 12) (a 13) (a 14) H := by kernel_rfl
  ((h1.trans h2).trans h2b).trans h3
abbrev m_fieldfarelaw7_MeansAllttttttt_k (K : AV → AH → Prop) : KP := exP (fun (a : TE) (H : AH) => m_fieldfarelaw7_MeansAlltttttttt K (a 2) (a 4) (a 12) (a 13) (a 14) H) (m_fieldfarelaw7_MeansAll_K K)
abbrev m_fieldfarelaw7_MeansAlltttttttht_k (K : AV → AH → Prop) : KP := blockP 0 (m_fieldfarelaw7_MeansAllttttttt_k K)
abbrev m_fieldfarelaw7_MeansAllttttttthtb_k (K : AV → AH → Prop) (r0 : (AV × AV × AV × AV × AV × AV × AV) → AH → Prop) : KP := exP (fun (a : TE) (H : AH) => r0 (a 2, a 4, a 12, a 13, a 14, a 41, a 42) H) (m_fieldfarelaw7_MeansAlltttttttht_k K)
def m_fieldfarelaw7_MeansAllttttttthtbl (K : AV → AH → Prop) (r0 : (AV × AV × AV × AV × AV × AV × AV) → AH → Prop) (x2 x4 x12 x13 x14 x41 x42 : AV) (H : AH) : Prop :=
  outP CC H (w_int .lss H x42 x41) fun v1 H1 =>
  condP v1
  (outP CC H1 (w_indexAddr (.sl 1) H1 x13 x42) fun v2 H2 =>
  outP CC H2 (w_load none H2 v2) fun v3 H3 =>
  outP CC H3 (w_indexAddr (.sl 1) H3 x14 x42) fun v4 H4 =>
  outP CC H4 (w_load none H4 v4) fun v5 H5 =>
  outP CC H5 (some (.enter 24 [v3, v5])) fun v6 H6 =>
  outP CC H6 (w_un .not H6 v6) fun v7 H7 =>
  guardP (boolIs false v7) H7 (outP CC H7 (some (.val x13 H7))) fun v8 H8 =>
  guardP (boolIs false v7) H8 (outP CC H8 (some (.val x42 H8))) fun v9 H9 =>
  guardP (boolIs false v7) H9 (outP CC H9 (w_indexAddr (.sl 1) H9 v8 v9)) fun v10 H10 =>
  guardP (boolIs false v7) H10 (outP CC H10 (w_load none H10 v10)) fun v11 H11 =>
  guardP (boolIs false v7) H11 (outP CC H11 (some (.val x2 H11))) fun v12 H12 =>
  guardP (boolIs false v7) H12 (outP CC H12 (some (.enter 25 [v11, v12]))) fun v13 H13 =>
  guardP (boolIs false v7) H13 (outP CC H13 (w_un .not H13 v13)) fun v14 H14 =>
  outP CC H14 (w_pick H14 v7 (.bool true) v14) fun v15 H15 =>
  condP v15
  (K (.bool false) H15)
  (outP CC H15 (w_int .add H15 x42 (.int .i64 1)) fun v16 H16 =>
  r0 (x2, x4, x12, x13, x14, x41, v16) H16))
  (m_fieldfarelaw7_MeansAlltttttttt K x2 x4 x12 x13 x14 H1)
theorem m_fieldfarelaw7_MeansAllttttttthtbl_eq (K : AV → AH → Prop) (r0 : (AV × AV × AV × AV × AV × AV × AV) → AH → Prop) (a : TE) (H : AH) : codeP PP CC (subC (bodyC PP 4) [1, 1, 1, 1, 1, 1, 1, 0, 1, 0, 0]) (m_fieldfarelaw7_MeansAllttttttthtb_k K r0) a H = m_fieldfarelaw7_MeansAllttttttthtbl K r0 (a 2) (a 4) (a 12) (a 13) (a 14) (a 41) (a 42) H :=
  by kernel_rfl
def m_fieldfarelaw7_MeansAllttttttthtb (K : AV → AH → Prop) (x2 x4 x12 x13 x14 x41 x42 : AV) (H : AH) : Prop :=
  loopP (fun (r0 : (AV × AV × AV × AV × AV × AV × AV) → AH → Prop) (s : (AV × AV × AV × AV × AV × AV × AV)) (H : AH) => m_fieldfarelaw7_MeansAllttttttthtbl K r0 s.1 s.2.1 s.2.2.1 s.2.2.2.1 s.2.2.2.2.1 s.2.2.2.2.2.1 s.2.2.2.2.2.2 H) (x2, x4, x12, x13, x14, x41, x42) H
theorem m_fieldfarelaw7_MeansAllttttttthtb_eq (K : AV → AH → Prop) (a : TE) (H : AH) : codeP PP CC (subC (bodyC PP 4) [1, 1, 1, 1, 1, 1, 1, 0, 1, 0]) (m_fieldfarelaw7_MeansAlltttttttht_k K) a H = m_fieldfarelaw7_MeansAllttttttthtb K (a 2) (a 4) (a 12) (a 13) (a 14) (a 41) (a 42) H :=
  have h1 : codeP PP CC (subC (bodyC PP 4) [1, 1, 1, 1, 1, 1, 1, 0, 1, 0]) (m_fieldfarelaw7_MeansAlltttttttht_k K) a H = loopP (fun (rec : KE) => codeP PP CC (subC (bodyC PP 4) [1, 1, 1, 1, 1, 1, 1, 0, 1, 0, 0]) (exP rec (m_fieldfarelaw7_MeansAlltttttttht_k K))) a H := by kernel_rfl
  have h2 := loopP_iso (F := fun (rec : KE) => codeP PP CC (subC (bodyC PP 4) [1, 1, 1, 1, 1, 1, 1, 0, 1, 0, 0]) (exP rec (m_fieldfarelaw7_MeansAlltttttttht_k K))) (S := (AV × AV × AV × AV × AV × AV × AV)) (fun a => (a 2, a 4, a 12, a 13, a 14, a 41, a 42)) (fun (r0 : (AV × AV × AV × AV × AV × AV × AV) → AH → Prop) (s : (AV × AV × AV × AV × AV × AV × AV)) (H : AH) => m_fieldfarelaw7_MeansAllttttttthtbl K r0 s.1 s.2.1 s.2.2.1 s.2.2.2.1 s.2.2.2.2.1 s.2.2.2.2.2.1 s.2.2.2.2.2.2 H) (fun (r0 : (AV × AV × AV × AV × AV × AV × AV) → AH → Prop) (a : TE) (H : AH) => (show codeP PP CC (subC (bodyC PP 4) [1, 1, 1, 1, 1, 1, 1, 0, 1, 0, 0]) (exP (fun (a : TE) (H : AH) => r0 (a 2, a 4, a 12, a 13, a 14, a 41, a 42) H) (m_fieldfarelaw7_MeansAlltttttttht_k K)) a H = codeP PP CC (subC (bodyC PP 4) [1, 1, 1, 1, 1, 1, 1, 0, 1, 0, 0]) (m_fieldfarelaw7_MeansAllttttttthtb_k K r0) a H from by kernel_rfl).trans (m_fieldfarelaw7_MeansAllttttttthtbl_eq K r0 a H)) a H
  h1.trans h2
theorem m_fieldfarelaw7_MeansAlltttttttht_eq (K : AV → AH → Prop) (a : TE) (H : AH) : codeP PP CC (subC (bodyC PP 4) [1, 1, 1, 1, 1, 1, 1, 0, 1]) (m_fieldfarelaw7_MeansAllttttttt_k K) a H = m_fieldfarelaw7_MeansAllttttttthtb K (a 2) (a 4) (a 12) (a 13) (a 14) (a 41) (a 42) H :=
  have h1 : codeP PP CC (subC (bodyC PP 4) [1, 1, 1, 1, 1, 1, 1, 0, 1]) (m_fieldfarelaw7_MeansAllttttttt_k K) a H = codeP PP CC (subC (bodyC PP 4) [1, 1, 1, 1, 1, 1, 1, 0, 1, 0]) (m_fieldfarelaw7_MeansAlltttttttht_k K) a H := by kernel_rfl
  h1.trans (m_fieldfarelaw7_MeansAllttttttthtb_eq K a H)
abbrev m_fieldfarelaw7_MeansAllttttttth_k (K : AV → AH → Prop) : KP := exP (fun (a : TE) (H : AH) => m_fieldfarelaw7_MeansAllttttttthtb K (a 2) (a 4) (a 12) (a 13) (a 14) (a 41) (a 42) H) (m_fieldfarelaw7_MeansAllttttttt_k K)
def m_fieldfarelaw7_MeansAllttttttth (K : AV → AH → Prop) (x2 x4 x12 x13 x14 : AV) (H : AH) : Prop :=
  outP CC H (w_len PP 36 H x13) fun v1 H1 =>
  m_fieldfarelaw7_MeansAllttttttthtb K x2 x4 x12 x13 x14 v1 (.int .i64 0) H1
theorem m_fieldfarelaw7_MeansAllttttttth_eq (K : AV → AH → Prop) (a : TE) (H : AH) : codeP PP CC (subC (bodyC PP 4) [1, 1, 1, 1, 1, 1, 1, 0]) (m_fieldfarelaw7_MeansAllttttttt_k K) a H = m_fieldfarelaw7_MeansAllttttttth K (a 2) (a 4) (a 12) (a 13) (a 14) H :=
  have h1 : codeP PP CC (subC (bodyC PP 4) [1, 1, 1, 1, 1, 1, 1, 0]) (m_fieldfarelaw7_MeansAllttttttt_k K) a H = codeP PP CC (subC (bodyC PP 4) [1, 1, 1, 1, 1, 1, 1, 0, 0]) (exP (codeP PP CC (subC (bodyC PP 4) [1, 1, 1, 1, 1, 1, 1, 0, 1]) (m_fieldfarelaw7_MeansAllttttttt_k K)) (m_fieldfarelaw7_MeansAllttttttt_k K)) a H := by kernel_rfl
  have h2 : codeP PP CC (subC (bodyC PP 4) [1, 1, 1, 1, 1, 1, 1, 0, 0]) (exP (codeP PP CC (subC (bodyC PP 4) [1, 1, 1, 1, 1, 1, 1, 0, 1]) (m_fieldfarelaw7_MeansAllttttttt_k K)) (m_fieldfarelaw7_MeansAllttttttt_k K)) a H = codeP PP CC (subC (bodyC PP 4) [1, 1, 1, 1, 1, 1, 1, 0, 0]) (exP (fun (a : TE) (H : AH) => m_fieldfarelaw7_MeansAllttttttthtb K (a 2) (a 4) (a 12) (a 13) (a 14) (a 41) (a 42) H) (m_fieldfarelaw7_MeansAllttttttt_k K)) a H := congrArg (fun k : KE => codeP PP CC (subC (bodyC PP 4) [1, 1, 1, 1, 1, 1, 1, 0, 0]) (exP k (m_fieldfarelaw7_MeansAllttttttt_k K)) a H) (funext fun a => funext fun H => m_fieldfarelaw7_MeansAlltttttttht_eq K a H)
  have h2b : codeP PP CC (subC (bodyC PP 4) [1, 1, 1, 1, 1, 1, 1, 0, 0]) (exP (fun (a : TE) (H : AH) => m_fieldfarelaw7_MeansAllttttttthtb K (a 2) (a 4) (a 12) (a 13) (a 14) (a 41) (a 42) H) (m_fieldfarelaw7_MeansAllttttttt_k K)) a H = codeP PP CC (subC (bodyC PP 4) [1, 1, 1, 1, 1, 1, 1, 0, 0]) (m_fieldfarelaw7_MeansAllttttttth_k K) a H := by kernel_rfl
  have h3 : codeP PP CC (subC (bodyC PP 4) [1, 1, 1, 1, 1, 1, 1, 0, 0]) (m_fieldfarelaw7_MeansAllttttttth_k K) a H = m_fieldfarelaw7_MeansAllttttttth K (a 2) (a 4) (a 12) (a 13) (a 14) H := by kernel_rfl
  ((h1.trans h2).trans h2b).trans h3
theorem m_fieldfarelaw7_MeansAllttttttt_eq (K : AV → AH → Prop) (a : TE) (H : AH) : codeP PP CC (subC (bodyC PP 4) [1, 1, 1, 1, 1, 1, 1]) (m_fieldfarelaw7_MeansAll_K K) a H = m_fieldfarelaw7_MeansAllttttttth K (a 2) (a 4) (a 12) (a 13) (a 14) H :=
  have h1 : codeP PP CC (subC (bodyC PP 4) [1, 1, 1, 1, 1, 1, 1]) (m_fieldfarelaw7_MeansAll_K K) a H = codeP PP CC (subC (bodyC PP 4) [1, 1, 1, 1, 1, 1, 1, 0]) (exP (codeP PP CC (subC (bodyC PP 4) [1, 1, 1, 1, 1, 1, 1, 1]) (m_fieldfarelaw7_MeansAll_K K)) (m_fieldfarelaw7_MeansAll_K K)) a H := by kernel_rfl
  have h2 : codeP PP CC (subC (bodyC PP 4) [1, 1, 1, 1, 1, 1, 1, 0]) (exP (codeP PP CC (subC (bodyC PP 4) [1, 1, 1, 1, 1, 1, 1, 1]) (m_fieldfarelaw7_MeansAll_K K)) (m_fieldfarelaw7_MeansAll_K K)) a H = codeP PP CC (subC (bodyC PP 4) [1, 1, 1, 1, 1, 1, 1, 0]) (exP (fun (a : TE) (H : AH) => m_fieldfarelaw7_MeansAlltttttttt K (a 2) (a 4) (a 12) (a 13) (a 14) H) (m_fieldfarelaw7_MeansAll_K K)) a H := congrArg (fun k : KE => codeP PP CC (subC (bodyC PP 4) [1, 1, 1, 1, 1, 1, 1, 0]) (exP k (m_fieldfarelaw7_MeansAll_K K)) a H) (funext fun a => funext fun H => m_fieldfarelaw7_MeansAlltttttttt_eq K a H)
  have h2b : codeP PP CC (subC (bodyC PP 4) [1, 1, 1, 1, 1, 1, 1, 0]) (exP (fun (a : TE) (H : AH) => m_fieldfarelaw7_MeansAlltttttttt K (a 2) (a 4) (a 12) (a 13) (a 14) H) (m_fieldfarelaw7_MeansAll_K K)) a H = codeP PP CC (subC (bodyC PP 4) [1, 1, 1, 1, 1, 1, 1, 0]) (m_fieldfarelaw7_MeansAllttttttt_k K) a H := by kernel_rfl
  ((h1.trans h2).trans h2b).trans (m_fieldfarelaw7_MeansAllttttttth_eq K a H)
abbrev m_fieldfarelaw7_MeansAlltttttt_k (K : AV → AH → Prop) : KP := exP (fun (a : TE) (H : AH) => m_fieldfarelaw7_MeansAllttttttth K (a 2) (a 4) (a 12) (a 13) (a 14) H) (m_fieldfarelaw7_MeansAll_K K)
def m_fieldfarelaw7_MeansAlltttttt (K : AV → AH → Prop) (x2 x4 x12 x13 x14 : AV) (H : AH) : Prop :=
  outP CC H (w_len PP 36 H x13) fun v1 H1 =>
  outP CC H1 (w_len PP 36 H1 x14) fun v2 H2 =>
  outP CC H2 (w_int .neq H2 v1 v2) fun v3 H3 =>
  condP v3
  (K (.bool false) H3)
  (m_fieldfarelaw7_MeansAllttttttth K x2 x4 x12 x13 x14 H3)
theorem m_fieldfarelaw7_MeansAlltttttt_eq (K : AV → AH → Prop) (a : TE) (H : AH) : codeP PP CC (subC (bodyC PP 4) [1, 1, 1, 1, 1, 1]) (m_fieldfarelaw7_MeansAll_K K) a H = m_fieldfarelaw7_MeansAlltttttt K (a 2) (a 4) (a 12) (a 13) (a 14) H :=
  have h1 : codeP PP CC (subC (bodyC PP 4) [1, 1, 1, 1, 1, 1]) (m_fieldfarelaw7_MeansAll_K K) a H = codeP PP CC (subC (bodyC PP 4) [1, 1, 1, 1, 1, 1, 0]) (exP (codeP PP CC (subC (bodyC PP 4) [1, 1, 1, 1, 1, 1, 1]) (m_fieldfarelaw7_MeansAll_K K)) (m_fieldfarelaw7_MeansAll_K K)) a H := by kernel_rfl
  have h2 : codeP PP CC (subC (bodyC PP 4) [1, 1, 1, 1, 1, 1, 0]) (exP (codeP PP CC (subC (bodyC PP 4) [1, 1, 1, 1, 1, 1, 1]) (m_fieldfarelaw7_MeansAll_K K)) (m_fieldfarelaw7_MeansAll_K K)) a H = codeP PP CC (subC (bodyC PP 4) [1, 1, 1, 1, 1, 1, 0]) (exP (fun (a : TE) (H : AH) => m_fieldfarelaw7_MeansAllttttttth K (a 2) (a 4) (a 12) (a 13) (a 14) H) (m_fieldfarelaw7_MeansAll_K K)) a H := congrArg (fun k : KE => codeP PP CC (subC (bodyC PP 4) [1, 1, 1, 1, 1, 1, 0]) (exP k (m_fieldfarelaw7_MeansAll_K K)) a H) (funext fun a => funext fun H => m_fieldfarelaw7_MeansAllttttttt_eq K a H)
  have h2b : codeP PP CC (subC (bodyC PP 4) [1, 1, 1, 1, 1, 1, 0]) (exP (fun (a : TE) (H : AH) => m_fieldfarelaw7_MeansAllttttttth K (a 2) (a 4) (a 12) (a 13) (a 14) H) (m_fieldfarelaw7_MeansAll_K K)) a H = codeP PP CC (subC (bodyC PP 4) [1, 1, 1, 1, 1, 1, 0]) (m_fieldfarelaw7_MeansAlltttttt_k K) a H := by kernel_rfl
  have h3 : codeP PP CC (subC (bodyC PP 4) [1, 1, 1, 1, 1, 1, 0]) (m_fieldfarelaw7_MeansAlltttttt_k K) a H = m_fieldfarelaw7_MeansAlltttttt K (a 2) (a 4) (a 12) (a 13) (a 14) H := by kernel_rfl
  ((h1.trans h2).trans h2b).trans h3
abbrev m_fieldfarelaw7_MeansAllttttt_k (K : AV → AH → Prop) : KP := exP (fun (a : TE) (H : AH) => m_fieldfarelaw7_MeansAlltttttt K (a 2) (a 4) (a 12) (a 13) (a 14) H) (m_fieldfarelaw7_MeansAll_K K)
def m_fieldfarelaw7_MeansAllttttt (K : AV → AH → Prop) (x0 x1 x2 x4 x12 : AV) (H : AH) : Prop :=
  outP CC H (some (.enter 22 [x0, x1, x12])) fun v1 H1 =>
  outP CC H1 (some (.enter 23 [x0, x1, x12])) fun v2 H2 =>
  m_fieldfarelaw7_MeansAlltttttt K x2 x4 x12 v1 v2 H2
theorem m_fieldfarelaw7_MeansAllttttt_eq (K : AV → AH → Prop) (a : TE) (H : AH) : codeP PP CC (subC (bodyC PP 4) [1, 1, 1, 1, 1]) (m_fieldfarelaw7_MeansAll_K K) a H = m_fieldfarelaw7_MeansAllttttt K (a 0) (a 1) (a 2) (a 4) (a 12) H :=
  have h1 : codeP PP CC (subC (bodyC PP 4) [1, 1, 1, 1, 1]) (m_fieldfarelaw7_MeansAll_K K) a H = codeP PP CC (subC (bodyC PP 4) [1, 1, 1, 1, 1, 0]) (exP (codeP PP CC (subC (bodyC PP 4) [1, 1, 1, 1, 1, 1]) (m_fieldfarelaw7_MeansAll_K K)) (m_fieldfarelaw7_MeansAll_K K)) a H := by kernel_rfl
  have h2 : codeP PP CC (subC (bodyC PP 4) [1, 1, 1, 1, 1, 0]) (exP (codeP PP CC (subC (bodyC PP 4) [1, 1, 1, 1, 1, 1]) (m_fieldfarelaw7_MeansAll_K K)) (m_fieldfarelaw7_MeansAll_K K)) a H = codeP PP CC (subC (bodyC PP 4) [1, 1, 1, 1, 1, 0]) (exP (fun (a : TE) (H : AH) => m_fieldfarelaw7_MeansAlltttttt K (a 2) (a 4) (a 12) (a 13) (a 14) H) (m_fieldfarelaw7_MeansAll_K K)) a H := congrArg (fun k : KE => codeP PP CC (subC (bodyC PP 4) [1, 1, 1, 1, 1, 0]) (exP k (m_fieldfarelaw7_MeansAll_K K)) a H) (funext fun a => funext fun H => m_fieldfarelaw7_MeansAlltttttt_eq K a H)
  have h2b : codeP PP CC (subC (bodyC PP 4) [1, 1, 1, 1, 1, 0]) (exP (fun (a : TE) (H : AH) => m_fieldfarelaw7_MeansAlltttttt K (a 2) (a 4) (a 12) (a 13) (a 14) H) (m_fieldfarelaw7_MeansAll_K K)) a H = codeP PP CC (subC (bodyC PP 4) [1, 1, 1, 1, 1, 0]) (m_fieldfarelaw7_MeansAllttttt_k K) a H := by kernel_rfl
  have h3 : codeP PP CC (subC (bodyC PP 4) [1, 1, 1, 1, 1, 0]) (m_fieldfarelaw7_MeansAllttttt_k K) a H = m_fieldfarelaw7_MeansAllttttt K (a 0) (a 1) (a 2) (a 4) (a 12) H := by kernel_rfl
  ((h1.trans h2).trans h2b).trans h3
abbrev m_fieldfarelaw7_MeansAlltttt_k (K : AV → AH → Prop) : KP := exP (fun (a : TE) (H : AH) => m_fieldfarelaw7_MeansAllttttt K (a 0) (a 1) (a 2) (a 4) (a 12) H) (m_fieldfarelaw7_MeansAll_K K)
def m_fieldfarelaw7_MeansAlltttt (K : AV → AH → Prop) (x0 x1 x2 x3 x4 : AV) (H : AH) : Prop :=
  outP CC H (some (.enter 21 [x3, x2, (.int .i64 25)])) fun v1 H1 =>
  m_fieldfarelaw7_MeansAllttttt K x0 x1 x2 x4 v1 H1
theorem m_fieldfarelaw7_MeansAlltttt_eq (K : AV → AH → Prop) (a : TE) (H : AH) : codeP PP CC (subC (bodyC PP 4) [1, 1, 1, 1]) (m_fieldfarelaw7_MeansAll_K K) a H = m_fieldfarelaw7_MeansAlltttt K (a 0) (a 1) (a 2) (a 3) (a 4) H :=
  have h1 : codeP PP CC (subC (bodyC PP 4) [1, 1, 1, 1]) (m_fieldfarelaw7_MeansAll_K K) a H = codeP PP CC (subC (bodyC PP 4) [1, 1, 1, 1, 0]) (exP (codeP PP CC (subC (bodyC PP 4) [1, 1, 1, 1, 1]) (m_fieldfarelaw7_MeansAll_K K)) (m_fieldfarelaw7_MeansAll_K K)) a H := by kernel_rfl
  have h2 : codeP PP CC (subC (bodyC PP 4) [1, 1, 1, 1, 0]) (exP (codeP PP CC (subC (bodyC PP 4) [1, 1, 1, 1, 1]) (m_fieldfarelaw7_MeansAll_K K)) (m_fieldfarelaw7_MeansAll_K K)) a H = codeP PP CC (subC (bodyC PP 4) [1, 1, 1, 1, 0]) (exP (fun (a : TE) (H : AH) => m_fieldfarelaw7_MeansAllttttt K (a 0) (a 1) (a 2) (a 4) (a 12) H) (m_fieldfarelaw7_MeansAll_K K)) a H := congrArg (fun k : KE => codeP PP CC (subC (bodyC PP 4) [1, 1, 1, 1, 0]) (exP k (m_fieldfarelaw7_MeansAll_K K)) a H) (funext fun a => funext fun H => m_fieldfarelaw7_MeansAllttttt_eq K a H)
  have h2b : codeP PP CC (subC (bodyC PP 4) [1, 1, 1, 1, 0]) (exP (fun (a : TE) (H : AH) => m_fieldfarelaw7_MeansAllttttt K (a 0) (a 1) (a 2) (a 4) (a 12) H) (m_fieldfarelaw7_MeansAll_K K)) a H = codeP PP CC (subC (bodyC PP 4) [1, 1, 1, 1, 0]) (m_fieldfarelaw7_MeansAlltttt_k K) a H := by kernel_rfl
  have h3 : codeP PP CC (subC (bodyC PP 4) [1, 1, 1, 1, 0]) (m_fieldfarelaw7_MeansAlltttt_k K) a H = m_fieldfarelaw7_MeansAlltttt K (a 0) (a 1) (a 2) (a 3) (a 4) H := by kernel_rfl
  ((h1.trans h2).trans h2b).trans h3
abbrev m_fieldfarelaw7_MeansAllttt_k (K : AV → AH → Prop) : KP := exP (fun (a : TE) (H : AH) => m_fieldfarelaw7_MeansAlltttt K (a 0) (a 1) (a 2) (a 3) (a 4) H) (m_fieldfarelaw7_MeansAll_K K)
def m_fieldfarelaw7_MeansAllttt (K : AV → AH → Prop) (x0 x1 x2 x3 x4 : AV) (H : AH) : Prop :=
  outP CC H (some (.enter 20 [x2])) fun v1 H1 =>
  m_fieldfarelaw7_MeansAlltttt K x0 x1 v1 x3 x4 H1
theorem m_fieldfarelaw7_MeansAllttt_eq (K : AV → AH → Prop) (a : TE) (H : AH) : codeP PP CC (subC (bodyC PP 4) [1, 1, 1]) (m_fieldfarelaw7_MeansAll_K K) a H = m_fieldfarelaw7_MeansAllttt K (a 0) (a 1) (a 2) (a 3) (a 4) H :=
  have h1 : codeP PP CC (subC (bodyC PP 4) [1, 1, 1]) (m_fieldfarelaw7_MeansAll_K K) a H = codeP PP CC (subC (bodyC PP 4) [1, 1, 1, 0]) (exP (codeP PP CC (subC (bodyC PP 4) [1, 1, 1, 1]) (m_fieldfarelaw7_MeansAll_K K)) (m_fieldfarelaw7_MeansAll_K K)) a H := by kernel_rfl
  have h2 : codeP PP CC (subC (bodyC PP 4) [1, 1, 1, 0]) (exP (codeP PP CC (subC (bodyC PP 4) [1, 1, 1, 1]) (m_fieldfarelaw7_MeansAll_K K)) (m_fieldfarelaw7_MeansAll_K K)) a H = codeP PP CC (subC (bodyC PP 4) [1, 1, 1, 0]) (exP (fun (a : TE) (H : AH) => m_fieldfarelaw7_MeansAlltttt K (a 0) (a 1) (a 2) (a 3) (a 4) H) (m_fieldfarelaw7_MeansAll_K K)) a H := congrArg (fun k : KE => codeP PP CC (subC (bodyC PP 4) [1, 1, 1, 0]) (exP k (m_fieldfarelaw7_MeansAll_K K)) a H) (funext fun a => funext fun H => m_fieldfarelaw7_MeansAlltttt_eq K a H)
  have h2b : codeP PP CC (subC (bodyC PP 4) [1, 1, 1, 0]) (exP (fun (a : TE) (H : AH) => m_fieldfarelaw7_MeansAlltttt K (a 0) (a 1) (a 2) (a 3) (a 4) H) (m_fieldfarelaw7_MeansAll_K K)) a H = codeP PP CC (subC (bodyC PP 4) [1, 1, 1, 0]) (m_fieldfarelaw7_MeansAllttt_k K) a H := by kernel_rfl
  have h3 : codeP PP CC (subC (bodyC PP 4) [1, 1, 1, 0]) (m_fieldfarelaw7_MeansAllttt_k K) a H = m_fieldfarelaw7_MeansAllttt K (a 0) (a 1) (a 2) (a 3) (a 4) H := by kernel_rfl
  ((h1.trans h2).trans h2b).trans h3
abbrev m_fieldfarelaw7_MeansAlltt_k (K : AV → AH → Prop) : KP := exP (fun (a : TE) (H : AH) => m_fieldfarelaw7_MeansAllttt K (a 0) (a 1) (a 2) (a 3) (a 4) H) (m_fieldfarelaw7_MeansAll_K K)
def m_fieldfarelaw7_MeansAlltt (K : AV → AH → Prop) (x0 x1 x2 x3 x4 x11 : AV) (H : AH) : Prop :=
  outP CC H (w_un .not H x11) fun v1 H1 =>
  condP v1
  (K (.bool false) H1)
  (m_fieldfarelaw7_MeansAllttt K x0 x1 x2 x3 x4 H1)
theorem m_fieldfarelaw7_MeansAlltt_eq (K : AV → AH → Prop) (a : TE) (H : AH) : codeP PP CC (subC (bodyC PP 4) [1, 1]) (m_fieldfarelaw7_MeansAll_K K) a H = m_fieldfarelaw7_MeansAlltt K (a 0) (a 1) (a 2) (a 3) (a 4) (a 11) H :=
  have h1 : codeP PP CC (subC (bodyC PP 4) [1, 1]) (m_fieldfarelaw7_MeansAll_K K) a H = codeP PP CC (subC (bodyC PP 4) [1, 1, 0]) (exP (codeP PP CC (subC (bodyC PP 4) [1, 1, 1]) (m_fieldfarelaw7_MeansAll_K K)) (m_fieldfarelaw7_MeansAll_K K)) a H := by kernel_rfl
  have h2 : codeP PP CC (subC (bodyC PP 4) [1, 1, 0]) (exP (codeP PP CC (subC (bodyC PP 4) [1, 1, 1]) (m_fieldfarelaw7_MeansAll_K K)) (m_fieldfarelaw7_MeansAll_K K)) a H = codeP PP CC (subC (bodyC PP 4) [1, 1, 0]) (exP (fun (a : TE) (H : AH) => m_fieldfarelaw7_MeansAllttt K (a 0) (a 1) (a 2) (a 3) (a 4) H) (m_fieldfarelaw7_MeansAll_K K)) a H := congrArg (fun k : KE => codeP PP CC (subC (bodyC PP 4) [1, 1, 0]) (exP k (m_fieldfarelaw7_MeansAll_K K)) a H) (funext fun a => funext fun H => m_fieldfarelaw7_MeansAllttt_eq K a H)
  have h2b : codeP PP CC (subC (bodyC PP 4) [1, 1, 0]) (exP (fun (a : TE) (H : AH) => m_fieldfarelaw7_MeansAllttt K (a 0) (a 1) (a 2) (a 3) (a 4) H) (m_fieldfarelaw7_MeansAll_K K)) a H = codeP PP CC (subC (bodyC PP 4) [1, 1, 0]) (m_fieldfarelaw7_MeansAlltt_k K) a H := by kernel_rfl
  have h3 : codeP PP CC (subC (bodyC PP 4) [1, 1, 0]) (m_fieldfarelaw7_MeansAlltt_k K) a H = m_fieldfarelaw7_MeansAlltt K (a 0) (a 1) (a 2) (a 3) (a 4) (a 11) H := by kernel_rfl
  ((h1.trans h2).trans h2b).trans h3
abbrev m_fieldfarelaw7_MeansAllt_k (K : AV → AH → Prop) : KP := exP (fun (a : TE) (H : AH) => m_fieldfarelaw7_MeansAlltt K (a 0) (a 1) (a 2) (a 3) (a 4) (a 11) H) (m_fieldfarelaw7_MeansAll_K K)
def m_fieldfarelaw7_MeansAllt (K : AV → AH → Prop) (x0 x1 x2 x3 x4 : AV) (H : AH) : Prop :=
  outP CC H (some (.enter 11 [])) fun v1 H1 =>
  m_fieldfarelaw7_MeansAlltt K x0 x1 x2 x3 x4 v1 H1
theorem m_fieldfarelaw7_MeansAllt_eq (K : AV → AH → Prop) (a : TE) (H : AH) : codeP PP CC (subC (bodyC PP 4) [1]) (m_fieldfarelaw7_MeansAll_K K) a H = m_fieldfarelaw7_MeansAllt K (a 0) (a 1) (a 2) (a 3) (a 4) H :=
  have h1 : codeP PP CC (subC (bodyC PP 4) [1]) (m_fieldfarelaw7_MeansAll_K K) a H = codeP PP CC (subC (bodyC PP 4) [1, 0]) (exP (codeP PP CC (subC (bodyC PP 4) [1, 1]) (m_fieldfarelaw7_MeansAll_K K)) (m_fieldfarelaw7_MeansAll_K K)) a H := by kernel_rfl
  have h2 : codeP PP CC (subC (bodyC PP 4) [1, 0]) (exP (codeP PP CC (subC (bodyC PP 4) [1, 1]) (m_fieldfarelaw7_MeansAll_K K)) (m_fieldfarelaw7_MeansAll_K K)) a H = codeP PP CC (subC (bodyC PP 4) [1, 0]) (exP (fun (a : TE) (H : AH) => m_fieldfarelaw7_MeansAlltt K (a 0) (a 1) (a 2) (a 3) (a 4) (a 11) H) (m_fieldfarelaw7_MeansAll_K K)) a H := congrArg (fun k : KE => codeP PP CC (subC (bodyC PP 4) [1, 0]) (exP k (m_fieldfarelaw7_MeansAll_K K)) a H) (funext fun a => funext fun H => m_fieldfarelaw7_MeansAlltt_eq K a H)
  have h2b : codeP PP CC (subC (bodyC PP 4) [1, 0]) (exP (fun (a : TE) (H : AH) => m_fieldfarelaw7_MeansAlltt K (a 0) (a 1) (a 2) (a 3) (a 4) (a 11) H) (m_fieldfarelaw7_MeansAll_K K)) a H = codeP PP CC (subC (bodyC PP 4) [1, 0]) (m_fieldfarelaw7_MeansAllt_k K) a H := by kernel_rfl
  have h3 : codeP PP CC (subC (bodyC PP 4) [1, 0]) (m_fieldfarelaw7_MeansAllt_k K) a H = m_fieldfarelaw7_MeansAllt K (a 0) (a 1) (a 2) (a 3) (a 4) H := by kernel_rfl
  ((h1.trans h2).trans h2b).trans h3
abbrev m_fieldfarelaw7_MeansAll_k (K : AV → AH → Prop) : KP := exP (fun (a : TE) (H : AH) => m_fieldfarelaw7_MeansAllt K (a 0) (a 1) (a 2) (a 3) (a 4) H) (m_fieldfarelaw7_MeansAll_K K)
def m_fieldfarelaw7_MeansAll (K : AV → AH → Prop) (x0 x1 x2 x3 x4 : AV) (H : AH) : Prop :=
  m_fieldfarelaw7_MeansAllt K x0 x1 x2 x3 x4 H
theorem m_fieldfarelaw7_MeansAll_eq (K : AV → AH → Prop) (a : TE) (H : AH) : codeP PP CC (subC (bodyC PP 4) []) (m_fieldfarelaw7_MeansAll_K K) a H = m_fieldfarelaw7_MeansAll K (a 0) (a 1) (a 2) (a 3) (a 4) H :=
  have h1 : codeP PP CC (subC (bodyC PP 4) []) (m_fieldfarelaw7_MeansAll_K K) a H = codeP PP CC (subC (bodyC PP 4) [0]) (exP (codeP PP CC (subC (bodyC PP 4) [1]) (m_fieldfarelaw7_MeansAll_K K)) (m_fieldfarelaw7_MeansAll_K K)) a H := by kernel_rfl
  have h2 : codeP PP CC (subC (bodyC PP 4) [0]) (exP (codeP PP CC (subC (bodyC PP 4) [1]) (m_fieldfarelaw7_MeansAll_K K)) (m_fieldfarelaw7_MeansAll_K K)) a H = codeP PP CC (subC (bodyC PP 4) [0]) (exP (fun (a : TE) (H : AH) => m_fieldfarelaw7_MeansAllt K (a 0) (a 1) (a 2) (a 3) (a 4) H) (m_fieldfarelaw7_MeansAll_K K)) a H := congrArg (fun k : KE => codeP PP CC (subC (bodyC PP 4) [0]) (exP k (m_fieldfarelaw7_MeansAll_K K)) a H) (funext fun a => funext fun H => m_fieldfarelaw7_MeansAllt_eq K a H)
  have h2b : codeP PP CC (subC (bodyC PP 4) [0]) (exP (fun (a : TE) (H : AH) => m_fieldfarelaw7_MeansAllt K (a 0) (a 1) (a 2) (a 3) (a 4) H) (m_fieldfarelaw7_MeansAll_K K)) a H = codeP PP CC (subC (bodyC PP 4) [0]) (m_fieldfarelaw7_MeansAll_k K) a H := by kernel_rfl
  have h3 : codeP PP CC (subC (bodyC PP 4) [0]) (m_fieldfarelaw7_MeansAll_k K) a H = m_fieldfarelaw7_MeansAll K (a 0) (a 1) (a 2) (a 3) (a 4) H := by kernel_rfl
  ((h1.trans h2).trans h2b).trans h3
theorem m_fieldfarelaw7_MeansAll_ok (x0 x1 x2 x3 x4 : AV) (H : AH) (K : AV → AH → Prop) (h : m_fieldfarelaw7_MeansAll K x0 x1 x2 x3 x4 H) : CC.call 4 [x0, x1, x2, x3, x4] H K :=
  have h1 : funP PP CC 4 [x0, x1, x2, x3, x4] H K = codeP PP CC (subC (bodyC PP 4) []) (m_fieldfarelaw7_MeansAll_K K) (argE [x0, x1, x2, x3, x4]) H := by kernel_rfl
  have h2 : m_fieldfarelaw7_MeansAll K (argE [x0, x1, x2, x3, x4] 0) (argE [x0, x1, x2, x3, x4] 1) (argE [x0, x1, x2, x3, x4] 2) (argE [x0, x1, x2, x3, x4] 3) (argE [x0, x1, x2, x3, x4] 4) H = m_fieldfarelaw7_MeansAll K x0 x1 x2 x3 x4 H := by kernel_rfl
  funP_ok (P := PP) (by kernel_rfl) (by kernel_rfl) ((h1.trans ((m_fieldfarelaw7_MeansAll_eq K (argE [x0, x1, x2, x3, x4]) H).trans h2)).mpr h)

end
end Go.Ab
