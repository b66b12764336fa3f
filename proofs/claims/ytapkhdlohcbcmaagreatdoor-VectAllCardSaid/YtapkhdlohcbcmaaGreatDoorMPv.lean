/- What functions do, said as what the evaluator does. Printed by a program. -/
import Derived.Test.YtapkhdlohcbcmaaGreatDoorBeg
import Derived.Test.YtapkhdlohcbcmaaGreatDoorEv3
namespace Go.Ab
noncomputable section
open Go.Proofs
set_option maxRecDepth 100000



/-! 30: fieldfare/fieldfareref1.PutVec -/
abbrev m_fieldfareref1_PutVec_K (K : AV → AH → Prop) : KP := finP PP (resC PP 30) K
abbrev m_fieldfareref1_PutVectt_k (K : AV → AH → Prop) : KP := exP (codeP PP CC (subC (bodyC PP 30) [1, 1, 1]) (m_fieldfareref1_PutVec_K K)) (m_fieldfareref1_PutVec_K K)
abbrev m_fieldfareref1_PutVecttht_k (K : AV → AH → Prop) : KP := blockP 0 (m_fieldfareref1_PutVectt_k K)
abbrev m_fieldfareref1_PutVectthtb_k (K : AV → AH → Prop) (r0 : (AV × AV × AV × AV) → AH → Prop) : KP := exP (fun (a : TE) (H : AH) => r0 (a 0, a 3, a 9, a 10) H) (m_fieldfareref1_PutVecttht_k K)
def m_fieldfareref1_PutVectthtbl (K : AV → AH → Prop) (r0 : (AV × AV × AV × AV) → AH → Prop) (x0 x3 x9 x10 : AV) (H : AH) : Prop :=
  outP CC H (w_int .lss H x10 x9) fun v1 H1 =>
  condP v1
  (outP CC H1 (w_indexAddr (.sl 1) H1 x0 x10) fun v2 H2 =>
  outP CC H2 (w_load none H2 v2) fun v3 H3 =>
  outP CC H3 (w_conv (.int .i64) H3 v3 none) fun v4 H4 =>
  outP CC H4 (some (.enter 56 [v4])) fun v5 H5 =>
  outP CC H5 (w_append 5 1 1 H5 x3 v5 none) fun v6 H6 =>
  outP CC H6 (w_int .add H6 x10 (.int .i64 1)) fun v7 H7 =>
  r0 (x0, v6, x9, v7) H7)
  (K x3 H1)
theorem m_fieldfareref1_PutVectthtbl_eq (K : AV → AH → Prop) (r0 : (AV × AV × AV × AV) → AH → Prop) (a : TE) (H : AH) : codeP PP CC (subC (bodyC PP 30) [1, 1, 0, 1, 0, 0]) (m_fieldfareref1_PutVectthtb_k K r0) a H = m_fieldfareref1_PutVectthtbl K r0 (a 0) (a 3) (a 9) (a 10) H :=
  by kernel_rfl
def m_fieldfareref1_PutVectthtb (K : AV → AH → Prop) (x0 x3 x9 x10 : AV) (H : AH) : Prop :=
  loopP (fun (r0 : (AV × AV × AV × AV) → AH → Prop) (s : (AV × AV × AV × AV)) (H : AH) => m_fieldfareref1_PutVectthtbl K r0 s.1 s.2.1 s.2.2.1 s.2.2.2 H) (x0, x3, x9, x10) H
theorem m_fieldfareref1_PutVectthtb_eq (K : AV → AH → Prop) (a : TE) (H : AH) : codeP PP CC (subC (bodyC PP 30) [1, 1, 0, 1, 0]) (m_fieldfareref1_PutVecttht_k K) a H = m_fieldfareref1_PutVectthtb K (a 0) (a 3) (a 9) (a 10) H :=
  have h1 : codeP PP CC (subC (bodyC PP 30) [1, 1, 0, 1, 0]) (m_fieldfareref1_PutVecttht_k K) a H = loopP (fun (rec : KE) => codeP PP CC (subC (bodyC PP 30) [1, 1, 0, 1, 0, 0]) (exP rec (m_fieldfareref1_PutVecttht_k K))) a H := by kernel_rfl
  have h2 := loopP_iso (F := fun (rec : KE) => codeP PP CC (subC (bodyC PP 30) [1, 1, 0, 1, 0, 0]) (exP rec (m_fieldfareref1_PutVecttht_k K))) (S := (AV × AV × AV × AV)) (fun a => (a 0, a 3, a 9, a 10)) (fun (r0 : (AV × AV × AV × AV) → AH → Prop) (s : (AV × AV × AV × AV)) (H : AH) => m_fieldfareref1_PutVectthtbl K r0 s.1 s.2.1 s.2.2.1 s.2.2.2 H) (fun (r0 : (AV × AV × AV × AV) → AH → Prop) (a : TE) (H : AH) => (show codeP PP CC (subC (bodyC PP 30) [1, 1, 0, 1, 0, 0]) (exP (fun (a : TE) (H : AH) => r0 (a 0, a 3, a 9, a 10) H) (m_fieldfareref1_PutVecttht_k K)) a H = codeP PP CC (subC (bodyC PP 30) [1, 1, 0, 1, 0, 0]) (m_fieldfareref1_PutVectthtb_k K r0) a H from by kernel_rfl).trans (m_fieldfareref1_PutVectthtbl_eq K r0 a H)) a H
  h1.trans h2
theorem m_fieldfareref1_PutVecttht_eq (K : AV → AH → Prop) (a : TE) (H : AH) : codeP PP CC (subC (bodyC PP 30) [1, 1, 0, 1]) (m_fieldfareref1_PutVectt_k K) a H = m_fieldfareref1_PutVectthtb K (a 0) (a 3) (a 9) (a 10) H :=
  have h1 : codeP PP CC (subC (bodyC PP 30) [1, 1, 0, 1]) (m_fieldfareref1_PutVectt_k K) a H = codeP PP CC (subC (bodyC PP 30) [1, 1, 0, 1, 0]) (m_fieldfareref1_PutVecttht_k K) a H := by kernel_rfl
  h1.trans (m_fieldfareref1_PutVectthtb_eq K a H)
abbrev m_fieldfareref1_PutVectth_k (K : AV → AH → Prop) : KP := exP (fun (a : TE) (H : AH) => m_fieldfareref1_PutVectthtb K (a 0) (a 3) (a 9) (a 10) H) (m_fieldfareref1_PutVectt_k K)
def m_fieldfareref1_PutVectth (K : AV → AH → Prop) (x0 x3 : AV) (H : AH) : Prop :=
  outP CC H (w_len PP 25 H x0) fun v1 H1 =>
  m_fieldfareref1_PutVectthtb K x0 x3 v1 (.int .i64 0) H1
theorem m_fieldfareref1_PutVectth_eq (K : AV → AH → Prop) (a : TE) (H : AH) : codeP PP CC (subC (bodyC PP 30) [1, 1, 0]) (m_fieldfareref1_PutVectt_k K) a H = m_fieldfareref1_PutVectth K (a 0) (a 3) H :=
  have h1 : codeP PP CC (subC (bodyC PP 30) [1, 1, 0]) (m_fieldfareref1_PutVectt_k K) a H = codeP PP CC (subC (bodyC PP 30) [1, 1, 0, 0]) (exP (codeP PP CC (subC (bodyC PP 30) [1, 1, 0, 1]) (m_fieldfareref1_PutVectt_k K)) (m_fieldfareref1_PutVectt_k K)) a H := by kernel_rfl
  have h2 : codeP PP CC (subC (bodyC PP 30) [1, 1, 0, 0]) (exP (codeP PP CC (subC (bodyC PP 30) [1, 1, 0, 1]) (m_fieldfareref1_PutVectt_k K)) (m_fieldfareref1_PutVectt_k K)) a H = codeP PP CC (subC (bodyC PP 30) [1, 1, 0, 0]) (exP (fun (a : TE) (H : AH) => m_fieldfareref1_PutVectthtb K (a 0) (a 3) (a 9) (a 10) H) (m_fieldfareref1_PutVectt_k K)) a H := congrArg (fun k : KE => codeP PP CC (subC (bodyC PP 30) [1, 1, 0, 0]) (exP k (m_fieldfareref1_PutVectt_k K)) a H) (funext fun a => funext fun H => m_fieldfareref1_PutVecttht_eq K a H)
  have h2b : codeP PP CC (subC (bodyC PP 30) [1, 1, 0, 0]) (exP (fun (a : TE) (H : AH) => m_fieldfareref1_PutVectthtb K (a 0) (a 3) (a 9) (a 10) H) (m_fieldfareref1_PutVectt_k K)) a H = codeP PP CC (subC (bodyC PP 30) [1, 1, 0, 0]) (m_fieldfareref1_PutVectth_k K) a H := by kernel_rfl
  have h3 : codeP PP CC (subC (bodyC PP 30) [1, 1, 0, 0]) (m_fieldfareref1_PutVectth_k K) a H = m_fieldfareref1_PutVectth K (a 0) (a 3) H := by kernel_rfl
  ((h1.trans h2).trans h2b).trans h3
theorem m_fieldfareref1_PutVectt_eq (K : AV → AH → Prop) (a : TE) (H : AH) : codeP PP CC (subC (bodyC PP 30) [1, 1]) (m_fieldfareref1_PutVec_K K) a H = m_fieldfareref1_PutVectth K (a 0) (a 3) H :=
  have h1 : codeP PP CC (subC (bodyC PP 30) [1, 1]) (m_fieldfareref1_PutVec_K K) a H = codeP PP CC (subC (bodyC PP 30) [1, 1, 0]) (m_fieldfareref1_PutVectt_k K) a H := by kernel_rfl
  h1.trans (m_fieldfareref1_PutVectth_eq K a H)
abbrev m_fieldfareref1_PutVect_k (K : AV → AH → Prop) : KP := exP (fun (a : TE) (H : AH) => m_fieldfareref1_PutVectth K (a 0) (a 3) H) (m_fieldfareref1_PutVec_K K)
def m_fieldfareref1_PutVect (K : AV → AH → Prop) (x0 : AV) (H : AH) : Prop :=
  outP CC H (w_len PP 25 H x0) fun v1 H1 =>
  outP CC H1 (some (.enter 56 [v1])) fun v2 H2 =>
  m_fieldfareref1_PutVectth K x0 v2 H2
theorem m_fieldfareref1_PutVect_eq (K : AV → AH → Prop) (a : TE) (H : AH) : codeP PP CC (subC (bodyC PP 30) [1]) (m_fieldfareref1_PutVec_K K) a H = m_fieldfareref1_PutVect K (a 0) H :=
  have h1 : codeP PP CC (subC (bodyC PP 30) [1]) (m_fieldfareref1_PutVec_K K) a H = codeP PP CC (subC (bodyC PP 30) [1, 0]) (exP (codeP PP CC (subC (bodyC PP 30) [1, 1]) (m_fieldfareref1_PutVec_K K)) (m_fieldfareref1_PutVec_K K)) a H := by kernel_rfl
  have h2 : codeP PP CC (subC (bodyC PP 30) [1, 0]) (exP (codeP PP CC (subC (bodyC PP 30) [1, 1]) (m_fieldfareref1_PutVec_K K)) (m_fieldfareref1_PutVec_K K)) a H = codeP PP CC (subC (bodyC PP 30) [1, 0]) (exP (fun (a : TE) (H : AH) => m_fieldfareref1_PutVectth K (a 0) (a 3) H) (m_fieldfareref1_PutVec_K K)) a H := congrArg (fun k : KE => codeP PP CC (subC (bodyC PP 30) [1, 0]) (exP k (m_fieldfareref1_PutVec_K K)) a H) (funext fun a => funext fun H => m_fieldfareref1_PutVectt_eq K a H)
  have h2b : codeP PP CC (subC (bodyC PP 30) [1, 0]) (exP (fun (a : TE) (H : AH) => m_fieldfareref1_PutVectth K (a 0) (a 3) H) (m_fieldfareref1_PutVec_K K)) a H = codeP PP CC (subC (bodyC PP 30) [1, 0]) (m_fieldfareref1_PutVect_k K) a H := by kernel_rfl
  have h3 : codeP PP CC (subC (bodyC PP 30) [1, 0]) (m_fieldfareref1_PutVect_k K) a H = m_fieldfareref1_PutVect K (a 0) H := by kernel_rfl
  ((h1.trans h2).trans h2b).trans h3
abbrev m_fieldfareref1_PutVec_k (K : AV → AH → Prop) : KP := exP (fun (a : TE) (H : AH) => m_fieldfareref1_PutVect K (a 0) H) (m_fieldfareref1_PutVec_K K)
def m_fieldfareref1_PutVec (K : AV → AH → Prop) (x0 : AV) (H : AH) : Prop :=
  m_fieldfareref1_PutVect K x0 H
theorem m_fieldfareref1_PutVec_eq (K : AV → AH → Prop) (a : TE) (H : AH) : codeP PP CC (subC (bodyC PP 30) []) (m_fieldfareref1_PutVec_K K) a H = m_fieldfareref1_PutVec K (a 0) H :=
  have h1 : codeP PP CC (subC (bodyC PP 30) []) (m_fieldfareref1_PutVec_K K) a H = codeP PP CC (subC (bodyC PP 30) [0]) (exP (codeP PP CC (subC (bodyC PP 30) [1]) (m_fieldfareref1_PutVec_K K)) (m_fieldfareref1_PutVec_K K)) a H := by kernel_rfl
  have h2 : codeP PP CC (subC (bodyC PP 30) [0]) (exP (codeP PP CC (subC (bodyC PP 30) [1]) (m_fieldfareref1_PutVec_K K)) (m_fieldfareref1_PutVec_K K)) a H = codeP PP CC (subC (bodyC PP 30) [0]) (exP (fun (a : TE) (H : AH) => m_fieldfareref1_PutVect K (a 0) H) (m_fieldfareref1_PutVec_K K)) a H := congrArg (fun k : KE => codeP PP CC (subC (bodyC PP 30) [0]) (exP k (m_fieldfareref1_PutVec_K K)) a H) (funext fun a => funext fun H => m_fieldfareref1_PutVect_eq K a H)
  have h2b : codeP PP CC (subC (bodyC PP 30) [0]) (exP (fun (a : TE) (H : AH) => m_fieldfareref1_PutVect K (a 0) H) (m_fieldfareref1_PutVec_K K)) a H = codeP PP CC (subC (bodyC PP 30) [0]) (m_fieldfareref1_PutVec_k K) a H := by kernel_rfl
  have h3 : codeP PP CC (subC (bodyC PP 30) [0]) (m_fieldfareref1_PutVec_k K) a H = m_fieldfareref1_PutVec K (a 0) H := by kernel_rfl
  ((h1.trans h2).trans h2b).trans h3
theorem m_fieldfareref1_PutVec_ok (x0 : AV) (H : AH) (K : AV → AH → Prop) (h : m_fieldfareref1_PutVec K x0 H) : CC.call 30 [x0] H K :=
  have h1 : funP PP CC 30 [x0] H K = codeP PP CC (subC (bodyC PP 30) []) (m_fieldfareref1_PutVec_K K) (argE [x0]) H := by kernel_rfl
  have h2 : m_fieldfareref1_PutVec K (argE [x0] 0) H = m_fieldfareref1_PutVec K x0 H := by kernel_rfl
  funP_ok (P := PP) (by kernel_rfl) (by kernel_rfl) ((h1.trans ((m_fieldfareref1_PutVec_eq K (argE [x0]) H).trans h2)).mpr h)

/-! 28: fieldfare/fieldfareref1.EqVec -/
abbrev m_fieldfareref1_EqVec_K (K : AV → AH → Prop) : KP := finP PP (resC PP 28) K
abbrev m_fieldfareref1_EqVectt_k (K : AV → AH → Prop) : KP := exP (codeP PP CC (subC (bodyC PP 28) [1, 1, 1]) (m_fieldfareref1_EqVec_K K)) (m_fieldfareref1_EqVec_K K)
abbrev m_fieldfareref1_EqVecttht_k (K : AV → AH → Prop) : KP := blockP 0 (m_fieldfareref1_EqVectt_k K)
abbrev m_fieldfareref1_EqVectthtb_k (K : AV → AH → Prop) (r0 : (AV × AV × AV × AV) → AH → Prop) : KP := exP (fun (a : TE) (H : AH) => r0 (a 0, a 1, a 12, a 13) H) (m_fieldfareref1_EqVecttht_k K)
def m_fieldfareref1_EqVectthtbl (K : AV → AH → Prop) (r0 : (AV × AV × AV × AV) → AH → Prop) (x0 x1 x12 x13 : AV) (H : AH) : Prop :=
  outP CC H (w_int .lss H x13 x12) fun v1 H1 =>
  condP v1
  (outP CC H1 (w_indexAddr (.sl 1) H1 x0 x13) fun v2 H2 =>
  outP CC H2 (w_load none H2 v2) fun v3 H3 =>
  outP CC H3 (w_indexAddr (.sl 1) H3 x1 x13) fun v4 H4 =>
  outP CC H4 (w_load none H4 v4) fun v5 H5 =>
  outP CC H5 (w_int .neq H5 v3 v5) fun v6 H6 =>
  condP v6
  (K (.bool false) H6)
  (outP CC H6 (w_int .add H6 x13 (.int .i64 1)) fun v7 H7 =>
  r0 (x0, x1, x12, v7) H7))
  (K (.bool true) H1)
theorem m_fieldfareref1_EqVectthtbl_eq (K : AV → AH → Prop) (r0 : (AV × AV × AV × AV) → AH → Prop) (a : TE) (H : AH) : codeP PP CC (subC (bodyC PP 28) [1, 1, 0, 1, 0, 0]) (m_fieldfareref1_EqVectthtb_k K r0) a H = m_fieldfareref1_EqVectthtbl K r0 (a 0) (a 1) (a 12) (a 13) H :=
  by kernel_rfl
def m_fieldfareref1_EqVectthtb (K : AV → AH → Prop) (x0 x1 x12 x13 : AV) (H : AH) : Prop :=
  loopP (fun (r0 : (AV × AV × AV × AV) → AH → Prop) (s : (AV × AV × AV × AV)) (H : AH) => m_fieldfareref1_EqVectthtbl K r0 s.1 s.2.1 s.2.2.1 s.2.2.2 H) (x0, x1, x12, x13) H
theorem m_fieldfareref1_EqVectthtb_eq (K : AV → AH → Prop) (a : TE) (H : AH) : codeP PP CC (subC (bodyC PP 28) [1, 1, 0, 1, 0]) (m_fieldfareref1_EqVecttht_k K) a H = m_fieldfareref1_EqVectthtb K (a 0) (a 1) (a 12) (a 13) H :=
  have h1 : codeP PP CC (subC (bodyC PP 28) [1, 1, 0, 1, 0]) (m_fieldfareref1_EqVecttht_k K) a H = loopP (fun (rec : KE) => codeP PP CC (subC (bodyC PP 28) [1, 1, 0, 1, 0, 0]) (exP rec (m_fieldfareref1_EqVecttht_k K))) a H := by kernel_rfl
  have h2 := loopP_iso (F := fun (rec : KE) => codeP PP CC (subC (bodyC PP 28) [1, 1, 0, 1, 0, 0]) (exP rec (m_fieldfareref1_EqVecttht_k K))) (S := (AV × AV × AV × AV)) (fun a => (a 0, a 1, a 12, a 13)) (fun (r0 : (AV × AV × AV × AV) → AH → Prop) (s : (AV × AV × AV × AV)) (H : AH) => m_fieldfareref1_EqVectthtbl K r0 s.1 s.2.1 s.2.2.1 s.2.2.2 H) (fun (r0 : (AV × AV × AV × AV) → AH → Prop) (a : TE) (H : AH) => (show codeP PP CC (subC (bodyC PP 28) [1, 1, 0, 1, 0, 0]) (exP (fun (a : TE) (H : AH) => r0 (a 0, a 1, a 12, a 13) H) (m_fieldfareref1_EqVecttht_k K)) a H = codeP PP CC (subC (bodyC PP 28) [1, 1, 0, 1, 0, 0]) (m_fieldfareref1_EqVectthtb_k K r0) a H from by kernel_rfl).trans (m_fieldfareref1_EqVectthtbl_eq K r0 a H)) a H
  h1.trans h2
theorem m_fieldfareref1_EqVecttht_eq (K : AV → AH → Prop) (a : TE) (H : AH) : codeP PP CC (subC (bodyC PP 28) [1, 1, 0, 1]) (m_fieldfareref1_EqVectt_k K) a H = m_fieldfareref1_EqVectthtb K (a 0) (a 1) (a 12) (a 13) H :=
  have h1 : codeP PP CC (subC (bodyC PP 28) [1, 1, 0, 1]) (m_fieldfareref1_EqVectt_k K) a H = codeP PP CC (subC (bodyC PP 28) [1, 1, 0, 1, 0]) (m_fieldfareref1_EqVecttht_k K) a H := by kernel_rfl
  h1.trans (m_fieldfareref1_EqVectthtb_eq K a H)
abbrev m_fieldfareref1_EqVectth_k (K : AV → AH → Prop) : KP := exP (fun (a : TE) (H : AH) => m_fieldfareref1_EqVectthtb K (a 0) (a 1) (a 12) (a 13) H) (m_fieldfareref1_EqVectt_k K)
def m_fieldfareref1_EqVectth (K : AV → AH → Prop) (x0 x1 : AV) (H : AH) : Prop :=
  outP CC H (w_len PP 25 H x0) fun v1 H1 =>
  m_fieldfareref1_EqVectthtb K x0 x1 v1 (.int .i64 0) H1
theorem m_fieldfareref1_EqVectth_eq (K : AV → AH → Prop) (a : TE) (H : AH) : codeP PP CC (subC (bodyC PP 28) [1, 1, 0]) (m_fieldfareref1_EqVectt_k K) a H = m_fieldfareref1_EqVectth K (a 0) (a 1) H :=
  have h1 : codeP PP CC (subC (bodyC PP 28) [1, 1, 0]) (m_fieldfareref1_EqVectt_k K) a H = codeP PP CC (subC (bodyC PP 28) [1, 1, 0, 0]) (exP (codeP PP CC (subC (bodyC PP 28) [1, 1, 0, 1]) (m_fieldfareref1_EqVectt_k K)) (m_fieldfareref1_EqVectt_k K)) a H := by kernel_rfl
  have h2 : codeP PP CC (subC (bodyC PP 28) [1, 1, 0, 0]) (exP (codeP PP CC (subC (bodyC PP 28) [1, 1, 0, 1]) (m_fieldfareref1_EqVectt_k K)) (m_fieldfareref1_EqVectt_k K)) a H = codeP PP CC (subC (bodyC PP 28) [1, 1, 0, 0]) (exP (fun (a : TE) (H : AH) => m_fieldfareref1_EqVectthtb K (a 0) (a 1) (a 12) (a 13) H) (m_fieldfareref1_EqVectt_k K)) a H := congrArg (fun k : KE => codeP PP CC (subC (bodyC PP 28) [1, 1, 0, 0]) (exP k (m_fieldfareref1_EqVectt_k K)) a H) (funext fun a => funext fun H => m_fieldfareref1_EqVecttht_eq K a H)
  have h2b : codeP PP CC (subC (bodyC PP 28) [1, 1, 0, 0]) (exP (fun (a : TE) (H : AH) => m_fieldfareref1_EqVectthtb K (a 0) (a 1) (a 12) (a 13) H) (m_fieldfareref1_EqVectt_k K)) a H = codeP PP CC (subC (bodyC PP 28) [1, 1, 0, 0]) (m_fieldfareref1_EqVectth_k K) a H := by kernel_rfl
  have h3 : codeP PP CC (subC (bodyC PP 28) [1, 1, 0, 0]) (m_fieldfareref1_EqVectth_k K) a H = m_fieldfareref1_EqVectth K (a 0) (a 1) H := by kernel_rfl
  ((h1.trans h2).trans h2b).trans h3
theorem m_fieldfareref1_EqVectt_eq (K : AV → AH → Prop) (a : TE) (H : AH) : codeP PP CC (subC (bodyC PP 28) [1, 1]) (m_fieldfareref1_EqVec_K K) a H = m_fieldfareref1_EqVectth K (a 0) (a 1) H :=
  have h1 : codeP PP CC (subC (bodyC PP 28) [1, 1]) (m_fieldfareref1_EqVec_K K) a H = codeP PP CC (subC (bodyC PP 28) [1, 1, 0]) (m_fieldfareref1_EqVectt_k K) a H := by kernel_rfl
  h1.trans (m_fieldfareref1_EqVectth_eq K a H)
abbrev m_fieldfareref1_EqVect_k (K : AV → AH → Prop) : KP := exP (fun (a : TE) (H : AH) => m_fieldfareref1_EqVectth K (a 0) (a 1) H) (m_fieldfareref1_EqVec_K K)
def m_fieldfareref1_EqVect (K : AV → AH → Prop) (x0 x1 : AV) (H : AH) : Prop :=
  outP CC H (w_len PP 25 H x0) fun v1 H1 =>
  outP CC H1 (w_len PP 25 H1 x1) fun v2 H2 =>
  outP CC H2 (w_int .neq H2 v1 v2) fun v3 H3 =>
  condP v3
  (K (.bool false) H3)
  (m_fieldfareref1_EqVectth K x0 x1 H3)
theorem m_fieldfareref1_EqVect_eq (K : AV → AH → Prop) (a : TE) (H : AH) : codeP PP CC (subC (bodyC PP 28) [1]) (m_fieldfareref1_EqVec_K K) a H = m_fieldfareref1_EqVect K (a 0) (a 1) H :=
  have h1 : codeP PP CC (subC (bodyC PP 28) [1]) (m_fieldfareref1_EqVec_K K) a H = codeP PP CC (subC (bodyC PP 28) [1, 0]) (exP (codeP PP CC (subC (bodyC PP 28) [1, 1]) (m_fieldfareref1_EqVec_K K)) (m_fieldfareref1_EqVec_K K)) a H := by kernel_rfl
  have h2 : codeP PP CC (subC (bodyC PP 28) [1, 0]) (exP (codeP PP CC (subC (bodyC PP 28) [1, 1]) (m_fieldfareref1_EqVec_K K)) (m_fieldfareref1_EqVec_K K)) a H = codeP PP CC (subC (bodyC PP 28) [1, 0]) (exP (fun (a : TE) (H : AH) => m_fieldfareref1_EqVectth K (a 0) (a 1) H) (m_fieldfareref1_EqVec_K K)) a H := congrArg (fun k : KE => codeP PP CC (subC (bodyC PP 28) [1, 0]) (exP k (m_fieldfareref1_EqVec_K K)) a H) (funext fun a => funext fun H => m_fieldfareref1_EqVectt_eq K a H)
  have h2b : codeP PP CC (subC (bodyC PP 28) [1, 0]) (exP (fun (a : TE) (H : AH) => m_fieldfareref1_EqVectth K (a 0) (a 1) H) (m_fieldfareref1_EqVec_K K)) a H = codeP PP CC (subC (bodyC PP 28) [1, 0]) (m_fieldfareref1_EqVect_k K) a H := by kernel_rfl
  have h3 : codeP PP CC (subC (bodyC PP 28) [1, 0]) (m_fieldfareref1_EqVect_k K) a H = m_fieldfareref1_EqVect K (a 0) (a 1) H := by kernel_rfl
  ((h1.trans h2).trans h2b).trans h3
abbrev m_fieldfareref1_EqVec_k (K : AV → AH → Prop) : KP := exP (fun (a : TE) (H : AH) => m_fieldfareref1_EqVect K (a 0) (a 1) H) (m_fieldfareref1_EqVec_K K)
def m_fieldfareref1_EqVec (K : AV → AH → Prop) (x0 x1 : AV) (H : AH) : Prop :=
  m_fieldfareref1_EqVect K x0 x1 H
theorem m_fieldfareref1_EqVec_eq (K : AV → AH → Prop) (a : TE) (H : AH) : codeP PP CC (subC (bodyC PP 28) []) (m_fieldfareref1_EqVec_K K) a H = m_fieldfareref1_EqVec K (a 0) (a 1) H :=
  have h1 : codeP PP CC (subC (bodyC PP 28) []) (m_fieldfareref1_EqVec_K K) a H = codeP PP CC (subC (bodyC PP 28) [0]) (exP (codeP PP CC (subC (bodyC PP 28) [1]) (m_fieldfareref1_EqVec_K K)) (m_fieldfareref1_EqVec_K K)) a H := by kernel_rfl
  have h2 : codeP PP CC (subC (bodyC PP 28) [0]) (exP (codeP PP CC (subC (bodyC PP 28) [1]) (m_fieldfareref1_EqVec_K K)) (m_fieldfareref1_EqVec_K K)) a H = codeP PP CC (subC (bodyC PP 28) [0]) (exP (fun (a : TE) (H : AH) => m_fieldfareref1_EqVect K (a 0) (a 1) H) (m_fieldfareref1_EqVec_K K)) a H := congrArg (fun k : KE => codeP PP CC (subC (bodyC PP 28) [0]) (exP k (m_fieldfareref1_EqVec_K K)) a H) (funext fun a => funext fun H => m_fieldfareref1_EqVect_eq K a H)
  have h2b : codeP PP CC (subC (bodyC PP 28) [0]) (exP (fun (a : TE) (H : AH) => m_fieldfareref1_EqVect K (a 0) (a 1) H) (m_fieldfareref1_EqVec_K K)) a H = codeP PP CC (subC (bodyC PP 28) [0]) (m_fieldfareref1_EqVec_k K) a H := by kernel_rfl
  have h3 : codeP PP CC (subC (bodyC PP 28) [0]) (m_fieldfareref1_EqVec_k K) a H = m_fieldfareref1_EqVec K (a 0) (a 1) H := by kernel_rfl
  ((h1.trans h2).trans h2b).trans h3
theorem m_fieldfareref1_EqVec_ok (x0 x1 : AV) (H : AH) (K : AV → AH → Prop) (h : m_fieldfareref1_EqVec K x0 x1 H) : CC.call 28 [x0, x1] H K :=
  have h1 : funP PP CC 28 [x0, x1] H K = codeP PP CC (subC (bodyC PP 28) []) (m_fieldfareref1_EqVec_K K) (argE [x0, x1]) H := by kernel_rfl
  have h2 : m_fieldfareref1_EqVec K (argE [x0, x1] 0) (argE [x0, x1] 1) H = m_fieldfareref1_EqVec K x0 x1 H := by kernel_rfl
  funP_ok (P := PP) (by kernel_rfl) (by kernel_rfl) ((h1.trans ((m_fieldfareref1_EqVec_eq K (argE [x0, x1]) H).trans h2)).mpr h)

/-! 56: fieldfare/fieldfareref1.Int -/
abbrev m_fieldfareref1_Int_K (K : AV → AH → Prop) : KP := finP PP (resC PP 56) K
abbrev m_fieldfareref1_Inttt_k (K : AV → AH → Prop) : KP := exP (codeP PP CC (subC (bodyC PP 56) [1, 1, 1]) (m_fieldfareref1_Int_K K)) (m_fieldfareref1_Int_K K)
abbrev m_fieldfareref1_Intttht_k (K : AV → AH → Prop) : KP := blockP 0 (m_fieldfareref1_Inttt_k K)
abbrev m_fieldfareref1_Inttthtb_k (K : AV → AH → Prop) (r0 : (AV × AV) → AH → Prop) : KP := exP (fun (a : TE) (H : AH) => r0 (a 3, a 4) H) (m_fieldfareref1_Intttht_k K)
def m_fieldfareref1_Inttthtbl (K : AV → AH → Prop) (r0 : (AV × AV) → AH → Prop) (x3 x4 : AV) (H : AH) : Prop :=
  outP CC H (w_int .eql H x4 (.int .i64 0)) fun v1 H1 =>
  guardP (boolIs true v1) H1 (outP CC H1 (some (.val x3 H1))) fun v2 H2 =>
  guardP (boolIs true v1) H2 (outP CC H2 (w_len PP 29 H2 v2)) fun v3 H3 =>
  guardP (boolIs true v1) H3 (outP CC H3 (w_int .eql H3 v3 (.int .i64 0))) fun v4 H4 =>
  guardP (boolIs true v1) H4 (outP CC H4 (some (.val v4 H4))) fun v5 H5 =>
  guardP (boolIs false v5) H5 (outP CC H5 (some (.val x3 H5))) fun v6 H6 =>
  guardP (boolIs false v5) H6 (outP CC H6 (some (.val x3 H6))) fun v7 H7 =>
  guardP (boolIs false v5) H7 (outP CC H7 (w_len PP 29 H7 v7)) fun v8 H8 =>
  guardP (boolIs false v5) H8 (outP CC H8 (w_int .sub H8 v8 (.int .i64 1))) fun v9 H9 =>
  guardP (boolIs false v5) H9 (outP CC H9 (w_indexAddr (.sl 1) H9 v6 v9)) fun v10 H10 =>
  guardP (boolIs false v5) H10 (outP CC H10 (w_load none H10 v10)) fun v11 H11 =>
  guardP (boolIs false v5) H11 (outP CC H11 (w_int .lss H11 v11 (.int .u8 128))) fun v12 H12 =>
  guardP (boolIs true v1) H12 (outP CC H12 (w_pick H12 v5 (.bool true) v12)) fun v13 H13 =>
  outP CC H13 (w_pick H13 v1 v13 (.bool false)) fun v14 H14 =>
  guardP (boolIs false v14) H14 (outP CC H14 (some (.val x4 H14))) fun v15 H15 =>
  guardP (boolIs false v14) H15 (outP CC H15 (w_int .eql H15 v15 (.int .i64 (-1)))) fun v16 H16 =>
  guardP (boolIs false v14) H16 (outP CC H16 (some (.val v16 H16))) fun v17 H17 =>
  guardP (boolIs true v17) H17 (outP CC H17 (some (.val x3 H17))) fun v18 H18 =>
  guardP (boolIs true v17) H18 (outP CC H18 (w_len PP 29 H18 v18)) fun v19 H19 =>
  guardP (boolIs true v17) H19 (outP CC H19 (w_int .gtr H19 v19 (.int .i64 0))) fun v20 H20 =>
  guardP (boolIs false v14) H20 (outP CC H20 (w_pick H20 v17 v20 (.bool false))) fun v21 H21 =>
  guardP (boolIs false v14) H21 (outP CC H21 (some (.val v21 H21))) fun v22 H22 =>
  guardP (boolIs true v22) H22 (outP CC H22 (some (.val x3 H22))) fun v23 H23 =>
  guardP (boolIs true v22) H23 (outP CC H23 (some (.val x3 H23))) fun v24 H24 =>
  guardP (boolIs true v22) H24 (outP CC H24 (w_len PP 29 H24 v24)) fun v25 H25 =>
  guardP (boolIs true v22) H25 (outP CC H25 (w_int .sub H25 v25 (.int .i64 1))) fun v26 H26 =>
  guardP (boolIs true v22) H26 (outP CC H26 (w_indexAddr (.sl 1) H26 v23 v26)) fun v27 H27 =>
  guardP (boolIs true v22) H27 (outP CC H27 (w_load none H27 v27)) fun v28 H28 =>
  guardP (boolIs true v22) H28 (outP CC H28 (w_int .geq H28 v28 (.int .u8 128))) fun v29 H29 =>
  guardP (boolIs false v14) H29 (outP CC H29 (w_pick H29 v22 v29 (.bool false))) fun v30 H30 =>
  outP CC H30 (w_pick H30 v14 (.bool true) v30) fun v31 H31 =>
  condP v31
  (outP CC H31 (w_len PP 29 H31 x3) fun v32 H32 =>
  outP CC H32 (w_conv (.int .u8) H32 v32 none) fun v33 H33 =>
  outP CC H33 (w_buildSlice PP 5 1 H33 [(0, v33)] none) fun v34 H34 =>
  outP CC H34 (w_append 5 1 1 H34 v34 x3 none) fun v35 H35 =>
  K v35 H35)
  (outP CC H31 (w_int .and H31 x4 (.int .i64 255)) fun v36 H36 =>
  outP CC H36 (w_conv (.int .u8) H36 v36 none) fun v37 H37 =>
  outP CC H37 (w_buildSlice PP 5 1 H37 [(0, v37)] none) fun v38 H38 =>
  outP CC H38 (w_append 5 1 1 H38 x3 v38 none) fun v39 H39 =>
  outP CC H39 (w_sh .shr H39 x4 (.int .u64 8)) fun v40 H40 =>
  r0 (v39, v40) H40)
theorem m_fieldfareref1_Inttthtbl_eq (K : AV → AH → Prop) (r0 : (AV × AV) → AH → Prop) (a : TE) (H : AH) : codeP PP CC (subC (bodyC PP 56) [1, 1, 0, 1, 0, 0]) (m_fieldfareref1_Inttthtb_k K r0) a H = m_fieldfareref1_Inttthtbl K r0 (a 3) (a 4) H :=
  by kernel_rfl
def m_fieldfareref1_Inttthtb (K : AV → AH → Prop) (x3 x4 : AV) (H : AH) : Prop :=
  loopP (fun (r0 : (AV × AV) → AH → Prop) (s : (AV × AV)) (H : AH) => m_fieldfareref1_Inttthtbl K r0 s.1 s.2 H) (x3, x4) H
theorem m_fieldfareref1_Inttthtb_eq (K : AV → AH → Prop) (a : TE) (H : AH) : codeP PP CC (subC (bodyC PP 56) [1, 1, 0, 1, 0]) (m_fieldfareref1_Intttht_k K) a H = m_fieldfareref1_Inttthtb K (a 3) (a 4) H :=
  have h1 : codeP PP CC (subC (bodyC PP 56) [1, 1, 0, 1, 0]) (m_fieldfareref1_Intttht_k K) a H = loopP (fun (rec : KE) => codeP PP CC (subC (bodyC PP 56) [1, 1, 0, 1, 0, 0]) (exP rec (m_fieldfareref1_Intttht_k K))) a H := by kernel_rfl
  have h2 := loopP_iso (F := fun (rec : KE) => codeP PP CC (subC (bodyC PP 56) [1, 1, 0, 1, 0, 0]) (exP rec (m_fieldfareref1_Intttht_k K))) (S := (AV × AV)) (fun a => (a 3, a 4)) (fun (r0 : (AV × AV) → AH → Prop) (s : (AV × AV)) (H : AH) => m_fieldfareref1_Inttthtbl K r0 s.1 s.2 H) (fun (r0 : (AV × AV) → AH → Prop) (a : TE) (H : AH) => (show codeP PP CC (subC (bodyC PP 56) [1, 1, 0, 1, 0, 0]) (exP (fun (a : TE) (H : AH) => r0 (a 3, a 4) H) (m_fieldfareref1_Intttht_k K)) a H = codeP PP CC (subC (bodyC PP 56) [1, 1, 0, 1, 0, 0]) (m_fieldfareref1_Inttthtb_k K r0) a H from by kernel_rfl).trans (m_fieldfareref1_Inttthtbl_eq K r0 a H)) a H
  h1.trans h2
theorem m_fieldfareref1_Intttht_eq (K : AV → AH → Prop) (a : TE) (H : AH) : codeP PP CC (subC (bodyC PP 56) [1, 1, 0, 1]) (m_fieldfareref1_Inttt_k K) a H = m_fieldfareref1_Inttthtb K (a 3) (a 4) H :=
  have h1 : codeP PP CC (subC (bodyC PP 56) [1, 1, 0, 1]) (m_fieldfareref1_Inttt_k K) a H = codeP PP CC (subC (bodyC PP 56) [1, 1, 0, 1, 0]) (m_fieldfareref1_Intttht_k K) a H := by kernel_rfl
  h1.trans (m_fieldfareref1_Inttthtb_eq K a H)
abbrev m_fieldfareref1_Inttth_k (K : AV → AH → Prop) : KP := exP (fun (a : TE) (H : AH) => m_fieldfareref1_Inttthtb K (a 3) (a 4) H) (m_fieldfareref1_Inttt_k K)
def m_fieldfareref1_Inttth (K : AV → AH → Prop) (x0 x3 : AV) (H : AH) : Prop :=
  m_fieldfareref1_Inttthtb K x3 x0 H
theorem m_fieldfareref1_Inttth_eq (K : AV → AH → Prop) (a : TE) (H : AH) : codeP PP CC (subC (bodyC PP 56) [1, 1, 0]) (m_fieldfareref1_Inttt_k K) a H = m_fieldfareref1_Inttth K (a 0) (a 3) H :=
  have h1 : codeP PP CC (subC (bodyC PP 56) [1, 1, 0]) (m_fieldfareref1_Inttt_k K) a H = codeP PP CC (subC (bodyC PP 56) [1, 1, 0, 0]) (exP (codeP PP CC (subC (bodyC PP 56) [1, 1, 0, 1]) (m_fieldfareref1_Inttt_k K)) (m_fieldfareref1_Inttt_k K)) a H := by kernel_rfl
  have h2 : codeP PP CC (subC (bodyC PP 56) [1, 1, 0, 0]) (exP (codeP PP CC (subC (bodyC PP 56) [1, 1, 0, 1]) (m_fieldfareref1_Inttt_k K)) (m_fieldfareref1_Inttt_k K)) a H = codeP PP CC (subC (bodyC PP 56) [1, 1, 0, 0]) (exP (fun (a : TE) (H : AH) => m_fieldfareref1_Inttthtb K (a 3) (a 4) H) (m_fieldfareref1_Inttt_k K)) a H := congrArg (fun k : KE => codeP PP CC (subC (bodyC PP 56) [1, 1, 0, 0]) (exP k (m_fieldfareref1_Inttt_k K)) a H) (funext fun a => funext fun H => m_fieldfareref1_Intttht_eq K a H)
  have h2b : codeP PP CC (subC (bodyC PP 56) [1, 1, 0, 0]) (exP (fun (a : TE) (H : AH) => m_fieldfareref1_Inttthtb K (a 3) (a 4) H) (m_fieldfareref1_Inttt_k K)) a H = codeP PP CC (subC (bodyC PP 56) [1, 1, 0, 0]) (m_fieldfareref1_Inttth_k K) a H := by kernel_rfl
  have h3 : codeP PP CC (subC (bodyC PP 56) [1, 1, 0, 0]) (m_fieldfareref1_Inttth_k K) a H = m_fieldfareref1_Inttth K (a 0) (a 3) H := by kernel_rfl
  ((h1.trans h2).trans h2b).trans h3
theorem m_fieldfareref1_Inttt_eq (K : AV → AH → Prop) (a : TE) (H : AH) : codeP PP CC (subC (bodyC PP 56) [1, 1]) (m_fieldfareref1_Int_K K) a H = m_fieldfareref1_Inttth K (a 0) (a 3) H :=
  have h1 : codeP PP CC (subC (bodyC PP 56) [1, 1]) (m_fieldfareref1_Int_K K) a H = codeP PP CC (subC (bodyC PP 56) [1, 1, 0]) (m_fieldfareref1_Inttt_k K) a H := by kernel_rfl
  h1.trans (m_fieldfareref1_Inttth_eq K a H)
abbrev m_fieldfareref1_Intt_k (K : AV → AH → Prop) : KP := exP (fun (a : TE) (H : AH) => m_fieldfareref1_Inttth K (a 0) (a 3) H) (m_fieldfareref1_Int_K K)
def m_fieldfareref1_Intt (K : AV → AH → Prop) (x0 : AV) (H : AH) : Prop :=
  m_fieldfareref1_Inttth K x0 (.slice none 0 0 true) H
theorem m_fieldfareref1_Intt_eq (K : AV → AH → Prop) (a : TE) (H : AH) : codeP PP CC (subC (bodyC PP 56) [1]) (m_fieldfareref1_Int_K K) a H = m_fieldfareref1_Intt K (a 0) H :=
  have h1 : codeP PP CC (subC (bodyC PP 56) [1]) (m_fieldfareref1_Int_K K) a H = codeP PP CC (subC (bodyC PP 56) [1, 0]) (exP (codeP PP CC (subC (bodyC PP 56) [1, 1]) (m_fieldfareref1_Int_K K)) (m_fieldfareref1_Int_K K)) a H := by kernel_rfl
  have h2 : codeP PP CC (subC (bodyC PP 56) [1, 0]) (exP (codeP PP CC (subC (bodyC PP 56) [1, 1]) (m_fieldfareref1_Int_K K)) (m_fieldfareref1_Int_K K)) a H = codeP PP CC (subC (bodyC PP 56) [1, 0]) (exP (fun (a : TE) (H : AH) => m_fieldfareref1_Inttth K (a 0) (a 3) H) (m_fieldfareref1_Int_K K)) a H := congrArg (fun k : KE => codeP PP CC (subC (bodyC PP 56) [1, 0]) (exP k (m_fieldfareref1_Int_K K)) a H) (funext fun a => funext fun H => m_fieldfareref1_Inttt_eq K a H)
  have h2b : codeP PP CC (subC (bodyC PP 56) [1, 0]) (exP (fun (a : TE) (H : AH) => m_fieldfareref1_Inttth K (a 0) (a 3) H) (m_fieldfareref1_Int_K K)) a H = codeP PP CC (subC (bodyC PP 56) [1, 0]) (m_fieldfareref1_Intt_k K) a H := by kernel_rfl
  have h3 : codeP PP CC (subC (bodyC PP 56) [1, 0]) (m_fieldfareref1_Intt_k K) a H = m_fieldfareref1_Intt K (a 0) H := by kernel_rfl
  ((h1.trans h2).trans h2b).trans h3
abbrev m_fieldfareref1_Int_k (K : AV → AH → Prop) : KP := exP (fun (a : TE) (H : AH) => m_fieldfareref1_Intt K (a 0) H) (m_fieldfareref1_Int_K K)
def m_fieldfareref1_Int (K : AV → AH → Prop) (x0 : AV) (H : AH) : Prop :=
  m_fieldfareref1_Intt K x0 H
theorem m_fieldfareref1_Int_eq (K : AV → AH → Prop) (a : TE) (H : AH) : codeP PP CC (subC (bodyC PP 56) []) (m_fieldfareref1_Int_K K) a H = m_fieldfareref1_Int K (a 0) H :=
  have h1 : codeP PP CC (subC (bodyC PP 56) []) (m_fieldfareref1_Int_K K) a H = codeP PP CC (subC (bodyC PP 56) [0]) (exP (codeP PP CC (subC (bodyC PP 56) [1]) (m_fieldfareref1_Int_K K)) (m_fieldfareref1_Int_K K)) a H := by kernel_rfl
  have h2 : codeP PP CC (subC (bodyC PP 56) [0]) (exP (codeP PP CC (subC (bodyC PP 56) [1]) (m_fieldfareref1_Int_K K)) (m_fieldfareref1_Int_K K)) a H = codeP PP CC (subC (bodyC PP 56) [0]) (exP (fun (a : TE) (H : AH) => m_fieldfareref1_Intt K (a 0) H) (m_fieldfareref1_Int_K K)) a H := congrArg (fun k : KE => codeP PP CC (subC (bodyC PP 56) [0]) (exP k (m_fieldfareref1_Int_K K)) a H) (funext fun a => funext fun H => m_fieldfareref1_Intt_eq K a H)
  have h2b : codeP PP CC (subC (bodyC PP 56) [0]) (exP (fun (a : TE) (H : AH) => m_fieldfareref1_Intt K (a 0) H) (m_fieldfareref1_Int_K K)) a H = codeP PP CC (subC (bodyC PP 56) [0]) (m_fieldfareref1_Int_k K) a H := by kernel_rfl
  have h3 : codeP PP CC (subC (bodyC PP 56) [0]) (m_fieldfareref1_Int_k K) a H = m_fieldfareref1_Int K (a 0) H := by kernel_rfl
  ((h1.trans h2).trans h2b).trans h3
theorem m_fieldfareref1_Int_ok (x0 : AV) (H : AH) (K : AV → AH → Prop) (h : m_fieldfareref1_Int K x0 H) : CC.call 56 [x0] H K :=
  have h1 : funP PP CC 56 [x0] H K = codeP PP CC (subC (bodyC PP 56) []) (m_fieldfareref1_Int_K K) (argE [x0]) H := by kernel_rfl
  have h2 : m_fieldfareref1_Int K (argE [x0] 0) H = m_fieldfareref1_Int K x0 H := by kernel_rfl
  funP_ok (P := PP) (by kernel_rfl) (by kernel_rfl) ((h1.trans ((m_fieldfareref1_Int_eq K (argE [x0]) H).trans h2)).mpr h)

end
end Go.Ab
