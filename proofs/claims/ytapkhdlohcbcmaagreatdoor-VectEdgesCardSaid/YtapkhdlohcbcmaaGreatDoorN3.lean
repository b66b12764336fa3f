/- What functions do, said as what the evaluator does. Printed by a program. -/
import Derived.Test.YtapkhdlohcbcmaaGreatDoorBeg
import Derived.Test.YtapkhdlohcbcmaaGreatDoorEv3
namespace Go.Ab
noncomputable section
open Go.Proofs
set_option maxRecDepth 100000



/-! 3: fieldfare/fieldfarelaw7.VectEdges -/
abbrev m_fieldfarelaw7_VectEdges_K (K : AV → AH → Prop) : KP := finP PP (resC PP 3) K
abbrev m_fieldfarelaw7_VectEdgestttttt_k (K : AV → AH → Prop) : KP := exP (codeP PP CC (subC (bodyC PP 3) [1, 1, 1, 1, 1, 1, 1]) (m_fieldfarelaw7_VectEdges_K K)) (m_fieldfarelaw7_VectEdges_K K)
abbrev m_fieldfarelaw7_VectEdgesttttttht_k (K : AV → AH → Prop) : KP := blockP 0 (m_fieldfarelaw7_VectEdgestttttt_k K)
abbrev m_fieldfarelaw7_VectEdgestttttthtb_k (K : AV → AH → Prop) (r0 : (AV × AV × AV × AV × AV × AV) → AH → Prop) : KP := exP (fun (a : TE) (H : AH) => r0 (a 0, a 1, a 2, a 26, a 27, a 28) H) (m_fieldfarelaw7_VectEdgesttttttht_k K)
def m_fieldfarelaw7_VectEdgestttttthtbl (K : AV → AH → Prop) (r0 : (AV × AV × AV × AV × AV × AV) → AH → Prop) (x0 x1 x2 x26 x27 x28 : AV) (H : AH) : Prop :=
  outP CC H (w_int .lss H x28 x27) fun v1 H1 =>
  condP v1
  (outP CC H1 (w_indexAddr (.sl 1) H1 x26 x28) fun v2 H2 =>
  outP CC H2 (w_load none H2 v2) fun v3 H3 =>
  outP CC H3 (w_makeSlice PP 21 H3 x0 x0 none) fun v4 H4 =>
  outP CC H4 (w_int .mul H4 v3 (.int .i32 1048576)) fun v5 H5 =>
  outP CC H5 (w_int .add H5 v5 x2) fun v6 H6 =>
  outP CC H6 (w_indexAddr (.sl 1) H6 v4 x1) fun v7 H7 =>
  outP CC H7 (w_store 1 H7 v7 v6) fun _v8 H8 =>
  outP CC H8 (some (.enter 12 [v4, x0])) fun v9 H9 =>
  outP CC H9 (w_int .mul H9 v3 x2) fun v10 H10 =>
  outP CC H10 (w_int .leq H10 v10 (.int .i32 0)) fun v11 H11 =>
  outP CC H11 (w_eq PP .neq 4 false false H11 v9 v11) fun v12 H12 =>
  condP v12
  (K (.bool false) H12)
  (outP CC H12 (w_int .add H12 x28 (.int .i64 1)) fun v13 H13 =>
  r0 (x0, x1, x2, x26, x27, v13) H13))
  (outP CC H1 (w_makeSlice PP 21 H1 x0 x0 none) fun v14 H14 =>
  outP CC H14 (some (.enter 12 [v14, x0])) fun v15 H15 =>
  guardP (boolIs true v15) H15 (outP CC H15 (some (.val v14 H15))) fun v16 H16 =>
  guardP (boolIs true v15) H16 (outP CC H16 (some (.val x0 H16))) fun v17 H17 =>
  guardP (boolIs true v15) H17 (outP CC H17 (w_int .add H17 v17 (.int .i64 1))) fun v18 H18 =>
  guardP (boolIs true v15) H18 (outP CC H18 (some (.enter 12 [v16, v18]))) fun v19 H19 =>
  guardP (boolIs true v15) H19 (outP CC H19 (w_un .not H19 v19)) fun v20 H20 =>
  outP CC H20 (w_pick H20 v15 v20 (.bool false)) fun v21 H21 =>
  guardP (boolIs true v21) H21 (outP CC H21 (some (.val v14 H21))) fun v22 H22 =>
  guardP (boolIs true v21) H22 (outP CC H22 (some (.val x0 H22))) fun v23 H23 =>
  guardP (boolIs true v21) H23 (outP CC H23 (w_int .sub H23 v23 (.int .i64 1))) fun v24 H24 =>
  guardP (boolIs true v21) H24 (outP CC H24 (some (.enter 12 [v22, v24]))) fun v25 H25 =>
  guardP (boolIs true v21) H25 (outP CC H25 (w_un .not H25 v25)) fun v26 H26 =>
  outP CC H26 (w_pick H26 v21 v26 (.bool false)) fun v27 H27 =>
  guardP (boolIs true v27) H27 (outP CC H27 (some (.val v14 H27))) fun v28 H28 =>
  guardP (boolIs true v27) H28 (outP CC H28 (some (.val x0 H28))) fun v29 H29 =>
  guardP (boolIs true v27) H29 (outP CC H29 (w_int .sub H29 v29 (.int .i64 1))) fun v30 H30 =>
  guardP (boolIs true v27) H30 (outP CC H30 (w_slice (.sl 1) true false H30 v28 none (some v30) none)) fun v31 H31 =>
  guardP (boolIs true v27) H31 (outP CC H31 (some (.val x0 H31))) fun v32 H32 =>
  guardP (boolIs true v27) H32 (outP CC H32 (some (.enter 12 [v31, v32]))) fun v33 H33 =>
  guardP (boolIs true v27) H33 (outP CC H33 (w_un .not H33 v33)) fun v34 H34 =>
  outP CC H34 (w_pick H34 v27 v34 (.bool false)) fun v35 H35 =>
  K v35 H35)
theorem m_fieldfarelaw7_VectEdgestttttthtbl_eq (K : AV → AH → Prop) (r0 : (AV × AV × AV × AV × AV × AV) → AH → Prop) (a : TE) (H : AH) : codeP PP CC (subC (bodyC PP 3) [1, 1, 1, 1, 1, 1, 0, 1, 0, 0]) (m_fieldfarelaw7_VectEdgestttttthtb_k K r0) a H = m_fieldfarelaw7_VectEdgestttttthtbl K r0 (a 0) (a 1) (a 2) (a 26) (a 27) (a 28) H :=
  by kernel_rfl
def m_fieldfarelaw7_VectEdgestttttthtb (K : AV → AH → Prop) (x0 x1 x2 x26 x27 x28 : AV) (H : AH) : Prop :=
  loopP (fun (r0 : (AV × AV × AV × AV × AV × AV) → AH → Prop) (s : (AV × AV × AV × AV × AV × AV)) (H : AH) => m_fieldfarelaw7_VectEdgestttttthtbl K r0 s.1 s.2.1 s.2.2.1 s.2.2.2.1 s.2.2.2.2.1 s.2.2.2.2.2 H) (x0, x1, x2, x26, x27, x28) H
theorem m_fieldfarelaw7_VectEdgestttttthtb_eq (K : AV → AH → Prop) (a : TE) (H : AH) : codeP PP CC (subC (bodyC PP 3) [1, 1, 1, 1, 1, 1, 0, 1, 0]) (m_fieldfarelaw7_VectEdgesttttttht_k K) a H = m_fieldfarelaw7_VectEdgestttttthtb K (a 0) (a 1) (a 2) (a 26) (a 27) (a 28) H :=
  have h1 : codeP PP CC (subC (bodyC PP 3) [1, 1, 1, 1, 1, 1, 0, 1, 0]) (m_fieldfarelaw7_VectEdgesttttttht_k K) a H = loopP (fun (rec : KE) => codeP PP CC (subC (bodyC PP 3) [1, 1, 1, 1, 1, 1, 0, 1, 0, 0]) (exP rec (m_fieldfarelaw7_VectEdgesttttttht_k K))) a H := by kernel_rfl
  have h2 := loopP_iso (F := fun (rec : KE) => codeP PP CC (subC (bodyC PP 3) [1, 1, 1, 1, 1, 1, 0, 1, 0, 0]) (exP rec (m_fieldfarelaw7_VectEdgesttttttht_k K))) (S := (AV × AV × AV × AV × AV × AV)) (fun a => (a 0, a 1, a 2, a 26, a 27, a 28)) (fun (r0 : (AV × AV × AV × AV × AV × AV) → AH → Prop) (s : (AV × AV × AV × AV × AV × AV)) (H : AH) => m_fieldfarelaw7_VectEdgestttttthtbl K r0 s.1 s.2.1 s.2.2.1 s.2.2.2.1 s.2.2.2.2.1 s.2.2.2.2.2 H) (fun (r0 : (AV × AV × AV × AV × AV × AV) → AH → Prop) (a : TE) (H : AH) => (show codeP PP CC (subC (bodyC PP 3) [1, 1, 1, 1, 1, 1, 0, 1, 0, 0]) (exP (fun (a : TE) (H : AH) => r0 (a 0, a 1, a 2, a 26, a 27, a 28) H) (m_fieldfarelaw7_VectEdgesttttttht_k K)) a H = codeP PP CC (subC (bodyC PP 3) [1, 1, 1, 1, 1, 1, 0, 1, 0, 0]) (m_fieldfarelaw7_VectEdgestttttthtb_k K r0) a H from by kernel_rfl).trans (m_fieldfarelaw7_VectEdgestttttthtbl_eq K r0 a H)) a H
  h1.trans h2
theorem m_fieldfarelaw7_VectEdgesttttttht_eq (K : AV → AH → Prop) (a : TE) (H : AH) : codeP PP CC (subC (bodyC PP 3) [1, 1, 1, 1, 1, 1, 0, 1]) (m_fieldfarelaw7_VectEdgestttttt_k K) a H = m_fieldfarelaw7_VectEdgestttttthtb K (a 0) (a 1) (a 2) (a 26) (a 27) (a 28) H :=
  have h1 : codeP PP CC (subC (bodyC PP 3) [1, 1, 1, 1, 1, 1, 0, 1]) (m_fieldfarelaw7_VectEdgestttttt_k K) a H = codeP PP CC (subC (bodyC PP 3) [1, 1, 1, 1, 1, 1, 0, 1, 0]) (m_fieldfarelaw7_VectEdgesttttttht_k K) a H := by kernel_rfl
  h1.trans (m_fieldfarelaw7_VectEdgestttttthtb_eq K a H)
abbrev m_fieldfarelaw7_VectEdgestttttth_k (K : AV → AH → Prop) : KP := exP (fun (a : TE) (H : AH) => m_fieldfarelaw7_VectEdgestttttthtb K (a 0) (a 1) (a 2) (a 26) (a 27) (a 28) H) (m_fieldfarelaw7_VectEdgestttttt_k K)
def m_fieldfarelaw7_VectEdgestttttth (K : AV → AH → Prop) (x0 x1 x2 : AV) (H : AH) : Prop :=
  outP CC H (w_buildSlice PP 21 2 H [(0, (.int .i32 (-1))), (1, (.int .i32 1))] none) fun v1 H1 =>
  outP CC H1 (w_len PP 24 H1 v1) fun v2 H2 =>
  m_fieldfarelaw7_VectEdgestttttthtb K x0 x1 x2 v1 v2 (.int .i64 0) H2
theorem m_fieldfarelaw7_VectEdgestttttth_eq (K : AV → AH → Prop) (a : TE) (H : AH) : codeP PP CC (subC (bodyC PP 3) [1, 1, 1, 1, 1, 1, 0]) (m_fieldfarelaw7_VectEdgestttttt_k K) a H = m_fieldfarelaw7_VectEdgestttttth K (a 0) (a 1) (a 2) H :=
  have h1 : codeP PP CC (subC (bodyC PP 3) [1, 1, 1, 1, 1, 1, 0]) (m_fieldfarelaw7_VectEdgestttttt_k K) a H = codeP PP CC (subC (bodyC PP 3) [1, 1, 1, 1, 1, 1, 0, 0]) (exP (codeP PP CC (subC (bodyC PP 3) [1, 1, 1, 1, 1, 1, 0, 1]) (m_fieldfarelaw7_VectEdgestttttt_k K)) (m_fieldfarelaw7_VectEdgestttttt_k K)) a H := by kernel_rfl
  have h2 : codeP PP CC (subC (bodyC PP 3) [1, 1, 1, 1, 1, 1, 0, 0]) (exP (codeP PP CC (subC (bodyC PP 3) [1, 1, 1, 1, 1, 1, 0, 1]) (m_fieldfarelaw7_VectEdgestttttt_k K)) (m_fieldfarelaw7_VectEdgestttttt_k K)) a H = codeP PP CC (subC (bodyC PP 3) [1, 1, 1, 1, 1, 1, 0, 0]) (exP (fun (a : TE) (H : AH) => m_fieldfarelaw7_VectEdgestttttthtb K (a 0) (a 1) (a 2) (a 26) (a 27) (a 28) H) (m_fieldfarelaw7_VectEdgestttttt_k K)) a H := congrArg (fun k : KE => codeP PP CC (subC (bodyC PP 3) [1, 1, 1, 1, 1, 1, 0, 0]) (exP k (m_fieldfarelaw7_VectEdgestttttt_k K)) a H) (funext fun a => funext fun H => m_fieldfarelaw7_VectEdgesttttttht_eq K a H)
  have h2b : codeP PP CC (subC (bodyC PP 3) [1, 1, 1, 1, 1, 1, 0, 0]) (exP (fun (a : TE) (H : AH) => m_fieldfarelaw7_VectEdgestttttthtb K (a 0) (a 1) (a 2) (a 26) (a 27) (a 28) H) (m_fieldfarelaw7_VectEdgestttttt_k K)) a H = codeP PP CC (subC (bodyC PP 3) [1, 1, 1, 1, 1, 1, 0, 0]) (m_fieldfarelaw7_VectEdgestttttth_k K) a H := by kernel_rfl
  have h3 : codeP PP CC (subC (bodyC PP 3) [1, 1, 1, 1, 1, 1, 0, 0]) (m_fieldfarelaw7_VectEdgestttttth_k K) a H = m_fieldfarelaw7_VectEdgestttttth K (a 0) (a 1) (a 2) H := by kernel_rfl
  ((h1.trans h2).trans h2b).trans h3
theorem m_fieldfarelaw7_VectEdgestttttt_eq (K : AV → AH → Prop) (a : TE) (H : AH) : codeP PP CC (subC (bodyC PP 3) [1, 1, 1, 1, 1, 1]) (m_fieldfarelaw7_VectEdges_K K) a H = m_fieldfarelaw7_VectEdgestttttth K (a 0) (a 1) (a 2) H :=
  have h1 : codeP PP CC (subC (bodyC PP 3) [1, 1, 1, 1, 1, 1]) (m_fieldfarelaw7_VectEdges_K K) a H = codeP PP CC (subC (bodyC PP 3) [1, 1, 1, 1, 1, 1, 0]) (m_fieldfarelaw7_VectEdgestttttt_k K) a H := by kernel_rfl
  h1.trans (m_fieldfarelaw7_VectEdgestttttth_eq K a H)
abbrev m_fieldfarelaw7_VectEdgesttttt_k (K : AV → AH → Prop) : KP := exP (fun (a : TE) (H : AH) => m_fieldfarelaw7_VectEdgestttttth K (a 0) (a 1) (a 2) H) (m_fieldfarelaw7_VectEdges_K K)
def m_fieldfarelaw7_VectEdgesttttt (K : AV → AH → Prop) (x0 x1 x2 : AV) (H : AH) : Prop :=
  outP CC H (w_int .rem H x2 (.int .i32 3)) fun v1 H1 =>
  m_fieldfarelaw7_VectEdgestttttth K x0 x1 v1 H1
theorem m_fieldfarelaw7_VectEdgesttttt_eq (K : AV → AH → Prop) (a : TE) (H : AH) : codeP PP CC (subC (bodyC PP 3) [1, 1, 1, 1, 1]) (m_fieldfarelaw7_VectEdges_K K) a H = m_fieldfarelaw7_VectEdgesttttt K (a 0) (a 1) (a 2) H :=
  have h1 : codeP PP CC (subC (bodyC PP 3) [1, 1, 1, 1, 1]) (m_fieldfarelaw7_VectEdges_K K) a H = codeP PP CC (subC (bodyC PP 3) [1, 1, 1, 1, 1, 0]) (exP (codeP PP CC (subC (bodyC PP 3) [1, 1, 1, 1, 1, 1]) (m_fieldfarelaw7_VectEdges_K K)) (m_fieldfarelaw7_VectEdges_K K)) a H := by kernel_rfl
  have h2 : codeP PP CC (subC (bodyC PP 3) [1, 1, 1, 1, 1, 0]) (exP (codeP PP CC (subC (bodyC PP 3) [1, 1, 1, 1, 1, 1]) (m_fieldfarelaw7_VectEdges_K K)) (m_fieldfarelaw7_VectEdges_K K)) a H = codeP PP CC (subC (bodyC PP 3) [1, 1, 1, 1, 1, 0]) (exP (fun (a : TE) (H : AH) => m_fieldfarelaw7_VectEdgestttttth K (a 0) (a 1) (a 2) H) (m_fieldfarelaw7_VectEdges_K K)) a H := congrArg (fun k : KE => codeP PP CC (subC (bodyC PP 3) [1, 1, 1, 1, 1, 0]) (exP k (m_fieldfarelaw7_VectEdges_K K)) a H) (funext fun a => funext fun H => m_fieldfarelaw7_VectEdgestttttt_eq K a H)
  have h2b : codeP PP CC (subC (bodyC PP 3) [1, 1, 1, 1, 1, 0]) (exP (fun (a : TE) (H : AH) => m_fieldfarelaw7_VectEdgestttttth K (a 0) (a 1) (a 2) H) (m_fieldfarelaw7_VectEdges_K K)) a H = codeP PP CC (subC (bodyC PP 3) [1, 1, 1, 1, 1, 0]) (m_fieldfarelaw7_VectEdgesttttt_k K) a H := by kernel_rfl
  have h3 : codeP PP CC (subC (bodyC PP 3) [1, 1, 1, 1, 1, 0]) (m_fieldfarelaw7_VectEdgesttttt_k K) a H = m_fieldfarelaw7_VectEdgesttttt K (a 0) (a 1) (a 2) H := by kernel_rfl
  ((h1.trans h2).trans h2b).trans h3
abbrev m_fieldfarelaw7_VectEdgestttt_k (K : AV → AH → Prop) : KP := exP (fun (a : TE) (H : AH) => m_fieldfarelaw7_VectEdgesttttt K (a 0) (a 1) (a 2) H) (m_fieldfarelaw7_VectEdges_K K)
def m_fieldfarelaw7_VectEdgestttt (K : AV → AH → Prop) (x0 x1 x2 : AV) (H : AH) : Prop :=
  outP CC H (w_int .rem H x1 x0) fun v1 H1 =>
  outP CC H1 (w_int .add H1 v1 x0) fun v2 H2 =>
  outP CC H2 (w_int .rem H2 v2 x0) fun v3 H3 =>
  m_fieldfarelaw7_VectEdgesttttt K x0 v3 x2 H3
theorem m_fieldfarelaw7_VectEdgestttt_eq (K : AV → AH → Prop) (a : TE) (H : AH) : codeP PP CC (subC (bodyC PP 3) [1, 1, 1, 1]) (m_fieldfarelaw7_VectEdges_K K) a H = m_fieldfarelaw7_VectEdgestttt K (a 0) (a 1) (a 2) H :=
  have h1 : codeP PP CC (subC (bodyC PP 3) [1, 1, 1, 1]) (m_fieldfarelaw7_VectEdges_K K) a H = codeP PP CC (subC (bodyC PP 3) [1, 1, 1, 1, 0]) (exP (codeP PP CC (subC (bodyC PP 3) [1, 1, 1, 1, 1]) (m_fieldfarelaw7_VectEdges_K K)) (m_fieldfarelaw7_VectEdges_K K)) a H := by kernel_rfl
  have h2 : codeP PP CC (subC (bodyC PP 3) [1, 1, 1, 1, 0]) (exP (codeP PP CC (subC (bodyC PP 3) [1, 1, 1, 1, 1]) (m_fieldfarelaw7_VectEdges_K K)) (m_fieldfarelaw7_VectEdges_K K)) a H = codeP PP CC (subC (bodyC PP 3) [1, 1, 1, 1, 0]) (exP (fun (a : TE) (H : AH) => m_fieldfarelaw7_VectEdgesttttt K (a 0) (a 1) (a 2) H) (m_fieldfarelaw7_VectEdges_K K)) a H := congrArg (fun k : KE => codeP PP CC (subC (bodyC PP 3) [1, 1, 1, 1, 0]) (exP k (m_fieldfarelaw7_VectEdges_K K)) a H) (funext fun a => funext fun H => m_fieldfarelaw7_VectEdgesttttt_eq K a H)
  have h2b : codeP PP CC (subC (bodyC PP 3) [1, 1, 1, 1, 0]) (exP (fun (a : TE) (H : AH) => m_fieldfarelaw7_VectEdgesttttt K (a 0) (a 1) (a 2) H) (m_fieldfarelaw7_VectEdges_K K)) a H = codeP PP CC (subC (bodyC PP 3) [1, 1, 1, 1, 0]) (m_fieldfarelaw7_VectEdgestttt_k K) a H := by kernel_rfl
  have h3 : codeP PP CC (subC (bodyC PP 3) [1, 1, 1, 1, 0]) (m_fieldfarelaw7_VectEdgestttt_k K) a H = m_fieldfarelaw7_VectEdgestttt K (a 0) (a 1) (a 2) H := by kernel_rfl
  ((h1.trans h2).trans h2b).trans h3
abbrev m_fieldfarelaw7_VectEdgesttt_k (K : AV → AH → Prop) : KP := exP (fun (a : TE) (H : AH) => m_fieldfarelaw7_VectEdgestttt K (a 0) (a 1) (a 2) H) (m_fieldfarelaw7_VectEdges_K K)
def m_fieldfarelaw7_VectEdgesttt (K : AV → AH → Prop) (x0 x1 x2 : AV) (H : AH) : Prop :=
  outP CC H (some (.enter 11 [x0])) fun v1 H1 =>
  m_fieldfarelaw7_VectEdgestttt K v1 x1 x2 H1
theorem m_fieldfarelaw7_VectEdgesttt_eq (K : AV → AH → Prop) (a : TE) (H : AH) : codeP PP CC (subC (bodyC PP 3) [1, 1, 1]) (m_fieldfarelaw7_VectEdges_K K) a H = m_fieldfarelaw7_VectEdgesttt K (a 0) (a 1) (a 2) H :=
  have h1 : codeP PP CC (subC (bodyC PP 3) [1, 1, 1]) (m_fieldfarelaw7_VectEdges_K K) a H = codeP PP CC (subC (bodyC PP 3) [1, 1, 1, 0]) (exP (codeP PP CC (subC (bodyC PP 3) [1, 1, 1, 1]) (m_fieldfarelaw7_VectEdges_K K)) (m_fieldfarelaw7_VectEdges_K K)) a H := by kernel_rfl
  have h2 : codeP PP CC (subC (bodyC PP 3) [1, 1, 1, 0]) (exP (codeP PP CC (subC (bodyC PP 3) [1, 1, 1, 1]) (m_fieldfarelaw7_VectEdges_K K)) (m_fieldfarelaw7_VectEdges_K K)) a H = codeP PP CC (subC (bodyC PP 3) [1, 1, 1, 0]) (exP (fun (a : TE) (H : AH) => m_fieldfarelaw7_VectEdgestttt K (a 0) (a 1) (a 2) H) (m_fieldfarelaw7_VectEdges_K K)) a H := congrArg (fun k : KE => codeP PP CC (subC (bodyC PP 3) [1, 1, 1, 0]) (exP k (m_fieldfarelaw7_VectEdges_K K)) a H) (funext fun a => funext fun H => m_fieldfarelaw7_VectEdgestttt_eq K a H)
  have h2b : codeP PP CC (subC (bodyC PP 3) [1, 1, 1, 0]) (exP (fun (a : TE) (H : AH) => m_fieldfarelaw7_VectEdgestttt K (a 0) (a 1) (a 2) H) (m_fieldfarelaw7_VectEdges_K K)) a H = codeP PP CC (subC (bodyC PP 3) [1, 1, 1, 0]) (m_fieldfarelaw7_VectEdgesttt_k K) a H := by kernel_rfl
  have h3 : codeP PP CC (subC (bodyC PP 3) [1, 1, 1, 0]) (m_fieldfarelaw7_VectEdgesttt_k K) a H = m_fieldfarelaw7_VectEdgesttt K (a 0) (a 1) (a 2) H := by kernel_rfl
  ((h1.trans h2).trans h2b).trans h3
abbrev m_fieldfarelaw7_VectEdgestt_k (K : AV → AH → Prop) : KP := exP (fun (a : TE) (H : AH) => m_fieldfarelaw7_VectEdgesttt K (a 0) (a 1) (a 2) H) (m_fieldfarelaw7_VectEdges_K K)
def m_fieldfarelaw7_VectEdgestt (K : AV → AH → Prop) (x0 x1 x2 x7 : AV) (H : AH) : Prop :=
  outP CC H (w_un .not H x7) fun v1 H1 =>
  condP v1
  (K (.bool false) H1)
  (m_fieldfarelaw7_VectEdgesttt K x0 x1 x2 H1)
theorem m_fieldfarelaw7_VectEdgestt_eq (K : AV → AH → Prop) (a : TE) (H : AH) : codeP PP CC (subC (bodyC PP 3) [1, 1]) (m_fieldfarelaw7_VectEdges_K K) a H = m_fieldfarelaw7_VectEdgestt K (a 0) (a 1) (a 2) (a 7) H :=
  have h1 : codeP PP CC (subC (bodyC PP 3) [1, 1]) (m_fieldfarelaw7_VectEdges_K K) a H = codeP PP CC (subC (bodyC PP 3) [1, 1, 0]) (exP (codeP PP CC (subC (bodyC PP 3) [1, 1, 1]) (m_fieldfarelaw7_VectEdges_K K)) (m_fieldfarelaw7_VectEdges_K K)) a H := by kernel_rfl
  have h2 : codeP PP CC (subC (bodyC PP 3) [1, 1, 0]) (exP (codeP PP CC (subC (bodyC PP 3) [1, 1, 1]) (m_fieldfarelaw7_VectEdges_K K)) (m_fieldfarelaw7_VectEdges_K K)) a H = codeP PP CC (subC (bodyC PP 3) [1, 1, 0]) (exP (fun (a : TE) (H : AH) => m_fieldfarelaw7_VectEdgesttt K (a 0) (a 1) (a 2) H) (m_fieldfarelaw7_VectEdges_K K)) a H := congrArg (fun k : KE => codeP PP CC (subC (bodyC PP 3) [1, 1, 0]) (exP k (m_fieldfarelaw7_VectEdges_K K)) a H) (funext fun a => funext fun H => m_fieldfarelaw7_VectEdgesttt_eq K a H)
  have h2b : codeP PP CC (subC (bodyC PP 3) [1, 1, 0]) (exP (fun (a : TE) (H : AH) => m_fieldfarelaw7_VectEdgesttt K (a 0) (a 1) (a 2) H) (m_fieldfarelaw7_VectEdges_K K)) a H = codeP PP CC (subC (bodyC PP 3) [1, 1, 0]) (m_fieldfarelaw7_VectEdgestt_k K) a H := by kernel_rfl
  have h3 : codeP PP CC (subC (bodyC PP 3) [1, 1, 0]) (m_fieldfarelaw7_VectEdgestt_k K) a H = m_fieldfarelaw7_VectEdgestt K (a 0) (a 1) (a 2) (a 7) H := by kernel_rfl
  ((h1.trans h2).trans h2b).trans h3
abbrev m_fieldfarelaw7_VectEdgest_k (K : AV → AH → Prop) : KP := exP (fun (a : TE) (H : AH) => m_fieldfarelaw7_VectEdgestt K (a 0) (a 1) (a 2) (a 7) H) (m_fieldfarelaw7_VectEdges_K K)
def m_fieldfarelaw7_VectEdgest (K : AV → AH → Prop) (x0 x1 x2 : AV) (H : AH) : Prop :=
  outP CC H (some (.enter 10 [])) fun v1 H1 =>
  m_fieldfarelaw7_VectEdgestt K x0 x1 x2 v1 H1
theorem m_fieldfarelaw7_VectEdgest_eq (K : AV → AH → Prop) (a : TE) (H : AH) : codeP PP CC (subC (bodyC PP 3) [1]) (m_fieldfarelaw7_VectEdges_K K) a H = m_fieldfarelaw7_VectEdgest K (a 0) (a 1) (a 2) H :=
  have h1 : codeP PP CC (subC (bodyC PP 3) [1]) (m_fieldfarelaw7_VectEdges_K K) a H = codeP PP CC (subC (bodyC PP 3) [1, 0]) (exP (codeP PP CC (subC (bodyC PP 3) [1, 1]) (m_fieldfarelaw7_VectEdges_K K)) (m_fieldfarelaw7_VectEdges_K K)) a H := by kernel_rfl
  have h2 : codeP PP CC (subC (bodyC PP 3) [1, 0]) (exP (codeP PP CC (subC (bodyC PP 3) [1, 1]) (m_fieldfarelaw7_VectEdges_K K)) (m_fieldfarelaw7_VectEdges_K K)) a H = codeP PP CC (subC (bodyC PP 3) [1, 0]) (exP (fun (a : TE) (H : AH) => m_fieldfarelaw7_VectEdgestt K (a 0) (a 1) (a 2) (a 7) H) (m_fieldfarelaw7_VectEdges_K K)) a H := congrArg (fun k : KE => codeP PP CC (subC (bodyC PP 3) [1, 0]) (exP k (m_fieldfarelaw7_VectEdges_K K)) a H) (funext fun a => funext fun H => m_fieldfarelaw7_VectEdgestt_eq K a H)
  have h2b : codeP PP CC (subC (bodyC PP 3) [1, 0]) (exP (fun (a : TE) (H : AH) => m_fieldfarelaw7_VectEdgestt K (a 0) (a 1) (a 2) (a 7) H) (m_fieldfarelaw7_VectEdges_K K)) a H = codeP PP CC (subC (bodyC PP 3) [1, 0]) (m_fieldfarelaw7_VectEdgest_k K) a H := by kernel_rfl
  have h3 : codeP PP CC (subC (bodyC PP 3) [1, 0]) (m_fieldfarelaw7_VectEdgest_k K) a H = m_fieldfarelaw7_VectEdgest K (a 0) (a 1) (a 2) H := by kernel_rfl
  ((h1.trans h2).trans h2b).trans h3
abbrev m_fieldfarelaw7_VectEdges_k (K : AV → AH → Prop) : KP := exP (fun (a : TE) (H : AH) => m_fieldfarelaw7_VectEdgest K (a 0) (a 1) (a 2) H) (m_fieldfarelaw7_VectEdges_K K)
def m_fieldfarelaw7_VectEdges (K : AV → AH → Prop) (x0 x1 x2 : AV) (H : AH) : Prop :=
  m_fieldfarelaw7_VectEdgest K x0 x1 x2 H
theorem m_fieldfarelaw7_VectEdges_eq (K : AV → AH → Prop) (a : TE) (H : AH) : codeP PP CC (subC (bodyC PP 3) []) (m_fieldfarelaw7_VectEdges_K K) a H = m_fieldfarelaw7_VectEdges K (a 0) (a 1) (a 2) H :=
  have h1 : codeP PP CC (subC (bodyC PP 3) []) (m_fieldfarelaw7_VectEdges_K K) a H = codeP PP CC (subC (bodyC PP 3) [0]) (exP (codeP PP CC (subC (bodyC PP 3) [1]) (m_fieldfarelaw7_VectEdges_K K)) (m_fieldfarelaw7_VectEdges_K K)) a H := by kernel_rfl
  have h2 : codeP PP CC (subC (bodyC PP 3) [0]) (exP (codeP PP CC (subC (bodyC PP 3) [1]) (m_fieldfarelaw7_VectEdges_K K)) (m_fieldfarelaw7_VectEdges_K K)) a H = codeP PP CC (subC (bodyC PP 3) [0]) (exP (fun (a : TE) (H : AH) => m_fieldfarelaw7_VectEdgest K (a 0) (a 1) (a 2) H) (m_fieldfarelaw7_VectEdges_K K)) a H := congrArg (fun k : KE => codeP PP CC (subC (bodyC PP 3) [0]) (exP k (m_fieldfarelaw7_VectEdges_K K)) a H) (funext fun a => funext fun H => m_fieldfarelaw7_VectEdgest_eq K a H)
  have h2b : codeP PP CC (subC (bodyC PP 3) [0]) (exP (fun (a : TE) (H : AH) => m_fieldfarelaw7_VectEdgest K (a 0) (a 1) (a 2) H) (m_fieldfarelaw7_VectEdges_K K)) a H = codeP PP CC (subC (bodyC PP 3) [0]) (m_fieldfarelaw7_VectEdges_k K) a H := by kernel_rfl
  have h3 : codeP PP CC (subC (bodyC PP 3) [0]) (m_fieldfarelaw7_VectEdges_k K) a H = m_fieldfarelaw7_VectEdges K (a 0) (a 1) (a 2) H := by kernel_rfl
  ((h1.trans h2).trans h2b).trans h3
theorem m_fieldfarelaw7_VectEdges_ok (x0 x1 x2 : AV) (H : AH) (K : AV → AH → Prop) (h : m_fieldfarelaw7_VectEdges K x0 x1 x2 H) : CC.call 3 [x0, x1, x2] H K :=
  have h1 : funP PP CC 3 [x0, x1, x2] H K = codeP PP CC (subC (bodyC PP 3) []) (m_fieldfarelaw7_VectEdges_K K) (argE [x0, x1, x2]) H := by kernel_rfl
  have h2 : m_fieldfarelaw7_VectEdges K (argE [x0, x1, x2] 0) (argE [x0, x1, x2] 1) (argE [x0, x1, x2] 2) H = m_fieldfarelaw7_VectEdges K x0 x1 x2 H := by kernel_rfl
  funP_ok (P := PP) (by kernel_rfl) (by kernel_rfl) ((h1.trans ((m_fieldfarelaw7_VectEdges_eq K (argE [x0, x1, x2]) H).trans h2)).mpr h)

end
end Go.Ab
