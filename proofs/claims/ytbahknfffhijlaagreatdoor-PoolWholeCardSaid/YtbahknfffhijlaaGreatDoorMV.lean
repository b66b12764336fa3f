/- What functions do, said as what the evaluator does. Printed by a program. -/
import Derived.Test.YtbahknfffhijlaaGreatDoorBeg
import Derived.Test.YtbahknfffhijlaaGreatDoorEv3
namespace Go.Ab
noncomputable section
open Go.Proofs
set_option maxRecDepth 100000



/-! 46: fieldfare/vect.Eq -/
abbrev m_vect_Eq_K (K : AV → AH → Prop) : KP := finP PP (resC PP 46) K
def m_vect_Eq (K : AV → AH → Prop) (x0 x1 : AV) (H : AH) : Prop :=
  outP CC H (some (.enter 65 [x0, x1])) fun v1 H1 =>
  K v1 H1
theorem m_vect_Eq_eq (K : AV → AH → Prop) (a : TE) (H : AH) : codeP PP CC (subC (bodyC PP 46) []) (m_vect_Eq_K K) a H = m_vect_Eq K (a 0) (a 1) H :=
  by kernel_rfl
theorem m_vect_Eq_ok (x0 x1 : AV) (H : AH) (K : AV → AH → Prop) (h : m_vect_Eq K x0 x1 H) : CC.call 46 [x0, x1] H K :=
  have h1 : funP PP CC 46 [x0, x1] H K = codeP PP CC (subC (bodyC PP 46) []) (m_vect_Eq_K K) (argE [x0, x1]) H := by kernel_rfl
  have h2 : m_vect_Eq K (argE [x0, x1] 0) (argE [x0, x1] 1) H = m_vect_Eq K x0 x1 H := by kernel_rfl
  funP_ok (P := PP) (by kernel_rfl) (by kernel_rfl) ((h1.trans ((m_vect_Eq_eq K (argE [x0, x1]) H).trans h2)).mpr h)

/-! 41: fieldfare/vect.May -/
abbrev m_vect_May_K (K : AV → AH → Prop) : KP := finP PP (resC PP 41) K
def m_vect_May (K : AV → AH → Prop) (x0 x1 : AV) (H : AH) : Prop :=
  outP CC H (w_int .lss H x1 (.int .i64 1)) fun v1 H1 =>
  guardP (boolIs false v1) H1 (outP CC H1 (some (.val x1 H1))) fun v2 H2 =>
  guardP (boolIs false v1) H2 (outP CC H2 (w_int .gtr H2 v2 (.int .i64 8))) fun v3 H3 =>
  outP CC H3 (w_pick H3 v1 (.bool true) v3) fun v4 H4 =>
  guardP (boolIs false v4) H4 (outP CC H4 (some (.val x0 H4))) fun v5 H5 =>
  guardP (boolIs false v4) H5 (outP CC H5 (w_len PP 49 H5 v5)) fun v6 H6 =>
  guardP (boolIs false v4) H6 (outP CC H6 (some (.val x1 H6))) fun v7 H7 =>
  guardP (boolIs false v4) H7 (outP CC H7 (w_int .neq H7 v6 v7)) fun v8 H8 =>
  outP CC H8 (w_pick H8 v4 (.bool true) v8) fun v9 H9 =>
  condP v9
  (K (.bool false) H9)
  (outP CC H9 (some (.enter 61 [x0, (.fn (.func 62) [] [])])) fun v10 H10 =>
  outP CC H10 (w_un .not H10 v10) fun v11 H11 =>
  K v11 H11)
theorem m_vect_May_eq (K : AV → AH → Prop) (a : TE) (H : AH) : codeP PP CC (subC (bodyC PP 41) []) (m_vect_May_K K) a H = m_vect_May K (a 0) (a 1) H :=
  by kernel_rfl
theorem m_vect_May_ok (x0 x1 : AV) (H : AH) (K : AV → AH → Prop) (h : m_vect_May K x0 x1 H) : CC.call 41 [x0, x1] H K :=
  have h1 : funP PP CC 41 [x0, x1] H K = codeP PP CC (subC (bodyC PP 41) []) (m_vect_May_K K) (argE [x0, x1]) H := by kernel_rfl
  have h2 : m_vect_May K (argE [x0, x1] 0) (argE [x0, x1] 1) H = m_vect_May K x0 x1 H := by kernel_rfl
  funP_ok (P := PP) (by kernel_rfl) (by kernel_rfl) ((h1.trans ((m_vect_May_eq K (argE [x0, x1]) H).trans h2)).mpr h)

/-! 61: slices.ContainsFunc[fieldfare/api.Vec,int32] -/
abbrev m_slices_ContainsFunc_api_Vec_int32_K (K : AV → AH → Prop) : KP := finP PP (resC PP 61) K
def m_slices_ContainsFunc_api_Vec_int32 (K : AV → AH → Prop) (x0 x1 : AV) (H : AH) : Prop :=
  outP CC H (some (.enter 84 [x0, x1])) fun v1 H1 =>
  outP CC H1 (w_int .geq H1 v1 (.int .i64 0)) fun v2 H2 =>
  K v2 H2
theorem m_slices_ContainsFunc_api_Vec_int32_eq (K : AV → AH → Prop) (a : TE) (H : AH) : codeP PP CC (subC (bodyC PP 61) []) (m_slices_ContainsFunc_api_Vec_int32_K K) a H = m_slices_ContainsFunc_api_Vec_int32 K (a 0) (a 1) H :=
  by kernel_rfl
theorem m_slices_ContainsFunc_api_Vec_int32_ok (x0 x1 : AV) (H : AH) (K : AV → AH → Prop) (h : m_slices_ContainsFunc_api_Vec_int32 K x0 x1 H) : CC.call 61 [x0, x1] H K :=
  have h1 : funP PP CC 61 [x0, x1] H K = codeP PP CC (subC (bodyC PP 61) []) (m_slices_ContainsFunc_api_Vec_int32_K K) (argE [x0, x1]) H := by kernel_rfl
  have h2 : m_slices_ContainsFunc_api_Vec_int32 K (argE [x0, x1] 0) (argE [x0, x1] 1) H = m_slices_ContainsFunc_api_Vec_int32 K x0 x1 H := by kernel_rfl
  funP_ok (P := PP) (by kernel_rfl) (by kernel_rfl) ((h1.trans ((m_slices_ContainsFunc_api_Vec_int32_eq K (argE [x0, x1]) H).trans h2)).mpr h)

/-! 62: fieldfare/vect.May$1 -/
abbrev m_vect_May_1_K (K : AV → AH → Prop) : KP := finP PP (resC PP 62) K
def m_vect_May_1 (K : AV → AH → Prop) (x0 : AV) (H : AH) : Prop :=
  outP CC H (w_int .lss H x0 (.int .i32 (-1048576))) fun v1 H1 =>
  guardP (boolIs false v1) H1 (outP CC H1 (some (.val x0 H1))) fun v2 H2 =>
  guardP (boolIs false v1) H2 (outP CC H2 (w_int .gtr H2 v2 (.int .i32 1048576))) fun v3 H3 =>
  outP CC H3 (w_pick H3 v1 (.bool true) v3) fun v4 H4 =>
  K v4 H4
theorem m_vect_May_1_eq (K : AV → AH → Prop) (a : TE) (H : AH) : codeP PP CC (subC (bodyC PP 62) []) (m_vect_May_1_K K) a H = m_vect_May_1 K (a 0) H :=
  by kernel_rfl
theorem m_vect_May_1_ok (x0 : AV) (H : AH) (K : AV → AH → Prop) (h : m_vect_May_1 K x0 H) : CC.call 62 [x0] H K :=
  have h1 : funP PP CC 62 [x0] H K = codeP PP CC (subC (bodyC PP 62) []) (m_vect_May_1_K K) (argE [x0]) H := by kernel_rfl
  have h2 : m_vect_May_1 K (argE [x0] 0) H = m_vect_May_1 K x0 H := by kernel_rfl
  funP_ok (P := PP) (by kernel_rfl) (by kernel_rfl) ((h1.trans ((m_vect_May_1_eq K (argE [x0]) H).trans h2)).mpr h)

/-! 84: slices.IndexFunc[fieldfare/api.Vec,int32] -/
abbrev m_slices_IndexFunc_api_Vec_int32_K (K : AV → AH → Prop) : KP := finP PP (resC PP 84) K
abbrev m_slices_IndexFunc_api_Vec_int32t_k (K : AV → AH → Prop) : KP := exP (codeP PP CC (subC (bodyC PP 84) [1, 1]) (m_slices_IndexFunc_api_Vec_int32_K K)) (m_slices_IndexFunc_api_Vec_int32_K K)
abbrev m_slices_IndexFunc_api_Vec_int32tht_k (K : AV → AH → Prop) : KP := blockP 0 (m_slices_IndexFunc_api_Vec_int32t_k K)
abbrev m_slices_IndexFunc_api_Vec_int32thtb_k (K : AV → AH → Prop) (r0 : (AV × AV × AV × AV) → AH → Prop) : KP := exP (fun (a : TE) (H : AH) => r0 (a 0, a 1, a 7, a 8) H) (m_slices_IndexFunc_api_Vec_int32tht_k K)
def m_slices_IndexFunc_api_Vec_int32thtbl (K : AV → AH → Prop) (r0 : (AV × AV × AV × AV) → AH → Prop) (x0 x1 x7 x8 : AV) (H : AH) : Prop :=
  outP CC H (w_int .lss H x8 x7) fun v1 H1 =>
  condP v1
  (outP CC H1 (w_indexAddr (.sl 1) H1 x0 x8) fun v2 H2 =>
  outP CC H2 (w_load none H2 v2) fun v3 H3 =>
  outP CC H3 (callV [v3] x1) fun v4 H4 =>
  condP v4
  (K x8 H4)
  (outP CC H4 (w_int .add H4 x8 (.int .i64 1)) fun v5 H5 =>
  r0 (x0, x1, x7, v5) H5))
  (K (.int .i64 (-1)) H1)
theorem m_slices_IndexFunc_api_Vec_int32thtbl_eq (K : AV → AH → Prop) (r0 : (AV × AV × AV × AV) → AH → Prop) (a : TE) (H : AH) : codeP PP CC (subC (bodyC PP 84) [1, 0, 1, 0, 0]) (m_slices_IndexFunc_api_Vec_int32thtb_k K r0) a H = m_slices_IndexFunc_api_Vec_int32thtbl K r0 (a 0) (a 1) (a 7) (a 8) H :=
  by kernel_rfl
def m_slices_IndexFunc_api_Vec_int32thtb (K : AV → AH → Prop) (x0 x1 x7 x8 : AV) (H : AH) : Prop :=
  loopP (fun (r0 : (AV × AV × AV × AV) → AH → Prop) (s : (AV × AV × AV × AV)) (H : AH) => m_slices_IndexFunc_api_Vec_int32thtbl K r0 s.1 s.2.1 s.2.2.1 s.2.2.2 H) (x0, x1, x7, x8) H
theorem m_slices_IndexFunc_api_Vec_int32thtb_eq (K : AV → AH → Prop) (a : TE) (H : AH) : codeP PP CC (subC (bodyC PP 84) [1, 0, 1, 0]) (m_slices_IndexFunc_api_Vec_int32tht_k K) a H = m_slices_IndexFunc_api_Vec_int32thtb K (a 0) (a 1) (a 7) (a 8) H :=
  have h1 : codeP PP CC (subC (bodyC PP 84) [1, 0, 1, 0]) (m_slices_IndexFunc_api_Vec_int32tht_k K) a H = loopP (fun (rec : KE) => codeP PP CC (subC (bodyC PP 84) [1, 0, 1, 0, 0]) (exP rec (m_slices_IndexFunc_api_Vec_int32tht_k K))) a H := by kernel_rfl
  have h2 := loopP_iso (F := fun (rec : KE) => codeP PP CC (subC (bodyC PP 84) [1, 0, 1, 0, 0]) (exP rec (m_slices_IndexFunc_api_Vec_int32tht_k K))) (S := (AV × AV × AV × AV)) (fun a => (a 0, a 1, a 7, a 8)) (fun (r0 : (AV × AV × AV × AV) → AH → Prop) (s : (AV × AV × AV × AV)) (H : AH) => m_slices_IndexFunc_api_Vec_int32thtbl K r0 s.1 s.2.1 s.2.2.1 s.2.2.2 H) (fun (r0 : (AV × AV × AV × AV) → AH → Prop) (a : TE) (H : AH) => (show codeP PP CC (subC (bodyC PP 84) [1, 0, 1, 0, 0]) (exP (fun (a : TE) (H : AH) => r0 (a 0, a 1, a 7, a 8) H) (m_slices_IndexFunc_api_Vec_int32tht_k K)) a H = codeP PP CC (subC (bodyC PP 84) [1, 0, 1, 0, 0]) (m_slices_IndexFunc_api_Vec_int32thtb_k K r0) a H from by kernel_rfl).trans (m_slices_IndexFunc_api_Vec_int32thtbl_eq K r0 a H)) a H
  h1.trans h2
theorem m_slices_IndexFunc_api_Vec_int32tht_eq (K : AV → AH → Prop) (a : TE) (H : AH) : codeP PP CC (subC (bodyC PP 84) [1, 0, 1]) (m_slices_IndexFunc_api_Vec_int32t_k K) a H = m_slices_IndexFunc_api_Vec_int32thtb K (a 0) (a 1) (a 7) (a 8) H :=
  have h1 : codeP PP CC (subC (bodyC PP 84) [1, 0, 1]) (m_slices_IndexFunc_api_Vec_int32t_k K) a H = codeP PP CC (subC (bodyC PP 84) [1, 0, 1, 0]) (m_slices_IndexFunc_api_Vec_int32tht_k K) a H := by kernel_rfl
  h1.trans (m_slices_IndexFunc_api_Vec_int32thtb_eq K a H)
abbrev m_slices_IndexFunc_api_Vec_int32th_k (K : AV → AH → Prop) : KP := exP (fun (a : TE) (H : AH) => m_slices_IndexFunc_api_Vec_int32thtb K (a 0) (a 1) (a 7) (a 8) H) (m_slices_IndexFunc_api_Vec_int32t_k K)
def m_slices_IndexFunc_api_Vec_int32th (K : AV → AH → Prop) (x0 x1 : AV) (H : AH) : Prop :=
  outP CC H (w_len PP 49 H x0) fun v1 H1 =>
  m_slices_IndexFunc_api_Vec_int32thtb K x0 x1 v1 (.int .i64 0) H1
theorem m_slices_IndexFunc_api_Vec_int32th_eq (K : AV → AH → Prop) (a : TE) (H : AH) : codeP PP CC (subC (bodyC PP 84) [1, 0]) (m_slices_IndexFunc_api_Vec_int32t_k K) a H = m_slices_IndexFunc_api_Vec_int32th K (a 0) (a 1) H :=
  have h1 : codeP PP CC (subC (bodyC PP 84) [1, 0]) (m_slices_IndexFunc_api_Vec_int32t_k K) a H = codeP PP CC (subC (bodyC PP 84) [1, 0, 0]) (exP (codeP PP CC (subC (bodyC PP 84) [1, 0, 1]) (m_slices_IndexFunc_api_Vec_int32t_k K)) (m_slices_IndexFunc_api_Vec_int32t_k K)) a H := by kernel_rfl
  have h2 : codeP PP CC (subC (bodyC PP 84) [1, 0, 0]) (exP (codeP PP CC (subC (bodyC PP 84) [1, 0, 1]) (m_slices_IndexFunc_api_Vec_int32t_k K)) (m_slices_IndexFunc_api_Vec_int32t_k K)) a H = codeP PP CC (subC (bodyC PP 84) [1, 0, 0]) (exP (fun (a : TE) (H : AH) => m_slices_IndexFunc_api_Vec_int32thtb K (a 0) (a 1) (a 7) (a 8) H) (m_slices_IndexFunc_api_Vec_int32t_k K)) a H := congrArg (fun k : KE => codeP PP CC (subC (bodyC PP 84) [1, 0, 0]) (exP k (m_slices_IndexFunc_api_Vec_int32t_k K)) a H) (funext fun a => funext fun H => m_slices_IndexFunc_api_Vec_int32tht_eq K a H)
  have h2b : codeP PP CC (subC (bodyC PP 84) [1, 0, 0]) (exP (fun (a : TE) (H : AH) => m_slices_IndexFunc_api_Vec_int32thtb K (a 0) (a 1) (a 7) (a 8) H) (m_slices_IndexFunc_api_Vec_int32t_k K)) a H = codeP PP CC (subC (bodyC PP 84) [1, 0, 0]) (m_slices_IndexFunc_api_Vec_int32th_k K) a H := by kernel_rfl
  have h3 : codeP PP CC (subC (bodyC PP 84) [1, 0, 0]) (m_slices_IndexFunc_api_Vec_int32th_k K) a H = m_slices_IndexFunc_api_Vec_int32th K (a 0) (a 1) H := by kernel_rfl
  ((h1.trans h2).trans h2b).trans h3
theorem m_slices_IndexFunc_api_Vec_int32t_eq (K : AV → AH → Prop) (a : TE) (H : AH) : codeP PP CC (subC (bodyC PP 84) [1]) (m_slices_IndexFunc_api_Vec_int32_K K) a H = m_slices_IndexFunc_api_Vec_int32th K (a 0) (a 1) H :=
  have h1 : codeP PP CC (subC (bodyC PP 84) [1]) (m_slices_IndexFunc_api_Vec_int32_K K) a H = codeP PP CC (subC (bodyC PP 84) [1, 0]) (m_slices_IndexFunc_api_Vec_int32t_k K) a H := by kernel_rfl
  h1.trans (m_slices_IndexFunc_api_Vec_int32th_eq K a H)
abbrev m_slices_IndexFunc_api_Vec_int32_k (K : AV → AH → Prop) : KP := exP (fun (a : TE) (H : AH) => m_slices_IndexFunc_api_Vec_int32th K (a 0) (a 1) H) (m_slices_IndexFunc_api_Vec_int32_K K)
def m_slices_IndexFunc_api_Vec_int32 (K : AV → AH → Prop) (x0 x1 : AV) (H : AH) : Prop :=
  m_slices_IndexFunc_api_Vec_int32th K x0 x1 H
theorem m_slices_IndexFunc_api_Vec_int32_eq (K : AV → AH → Prop) (a : TE) (H : AH) : codeP PP CC (subC (bodyC PP 84) []) (m_slices_IndexFunc_api_Vec_int32_K K) a H = m_slices_IndexFunc_api_Vec_int32 K (a 0) (a 1) H :=
  have h1 : codeP PP CC (subC (bodyC PP 84) []) (m_slices_IndexFunc_api_Vec_int32_K K) a H = codeP PP CC (subC (bodyC PP 84) [0]) (exP (codeP PP CC (subC (bodyC PP 84) [1]) (m_slices_IndexFunc_api_Vec_int32_K K)) (m_slices_IndexFunc_api_Vec_int32_K K)) a H := by kernel_rfl
  have h2 : codeP PP CC (subC (bodyC PP 84) [0]) (exP (codeP PP CC (subC (bodyC PP 84) [1]) (m_slices_IndexFunc_api_Vec_int32_K K)) (m_slices_IndexFunc_api_Vec_int32_K K)) a H = codeP PP CC (subC (bodyC PP 84) [0]) (exP (fun (a : TE) (H : AH) => m_slices_IndexFunc_api_Vec_int32th K (a 0) (a 1) H) (m_slices_IndexFunc_api_Vec_int32_K K)) a H := congrArg (fun k : KE => codeP PP CC (subC (bodyC PP 84) [0]) (exP k (m_slices_IndexFunc_api_Vec_int32_K K)) a H) (funext fun a => funext fun H => m_slices_IndexFunc_api_Vec_int32t_eq K a H)
  have h2b : codeP PP CC (subC (bodyC PP 84) [0]) (exP (fun (a : TE) (H : AH) => m_slices_IndexFunc_api_Vec_int32th K (a 0) (a 1) H) (m_slices_IndexFunc_api_Vec_int32_K K)) a H = codeP PP CC (subC (bodyC PP 84) [0]) (m_slices_IndexFunc_api_Vec_int32_k K) a H := by kernel_rfl
  have h3 : codeP PP CC (subC (bodyC PP 84) [0]) (m_slices_IndexFunc_api_Vec_int32_k K) a H = m_slices_IndexFunc_api_Vec_int32 K (a 0) (a 1) H := by kernel_rfl
  ((h1.trans h2).trans h2b).trans h3
theorem m_slices_IndexFunc_api_Vec_int32_ok (x0 x1 : AV) (H : AH) (K : AV → AH → Prop) (h : m_slices_IndexFunc_api_Vec_int32 K x0 x1 H) : CC.call 84 [x0, x1] H K :=
  have h1 : funP PP CC 84 [x0, x1] H K = codeP PP CC (subC (bodyC PP 84) []) (m_slices_IndexFunc_api_Vec_int32_K K) (argE [x0, x1]) H := by kernel_rfl
  have h2 : m_slices_IndexFunc_api_Vec_int32 K (argE [x0, x1] 0) (argE [x0, x1] 1) H = m_slices_IndexFunc_api_Vec_int32 K x0 x1 H := by kernel_rfl
  funP_ok (P := PP) (by kernel_rfl) (by kernel_rfl) ((h1.trans ((m_slices_IndexFunc_api_Vec_int32_eq K (argE [x0, x1]) H).trans h2)).mpr h)

/-! 65: slices.Equal[fieldfare/api.Vec,int32] -/
abbrev m_slices_Equal_api_Vec_int32_K (K : AV → AH → Prop) : KP := finP PP (resC PP 65) K
abbrev m_slices_Equal_api_Vec_int32tt_k (K : AV → AH → Prop) : KP := exP (codeP PP CC (subC (bodyC PP 65) [1, 1, 1]) (m_slices_Equal_api_Vec_int32_K K)) (m_slices_Equal_api_Vec_int32_K K)
abbrev m_slices_Equal_api_Vec_int32ttht_k (K : AV → AH → Prop) : KP := blockP 0 (m_slices_Equal_api_Vec_int32tt_k K)
abbrev m_slices_Equal_api_Vec_int32tthtb_k (K : AV → AH → Prop) (r0 : (AV × AV × AV × AV) → AH → Prop) : KP := exP (fun (a : TE) (H : AH) => r0 (a 0, a 1, a 12, a 13) H) (m_slices_Equal_api_Vec_int32ttht_k K)
def m_slices_Equal_api_Vec_int32tthtbl (K : AV → AH → Prop) (r0 : (AV × AV × AV × AV) → AH → Prop) (x0 x1 x12 x13 : AV) (H : AH) : Prop :=
  outP CC H (w_int .lss H x13 x12) fun v1 H1 =>
  condP v1
  (outP CC H1 (w_indexAddr (.sl 1) H1 x0 x13) fun v2 H2 =>
  outP CC H2 (w_load none H2 v2) fun v3 H3 =>
  outP CC H3 (w_indexAddr (.sl 1) H3 x1 x13) fun v4 H4 =>
  outP CC H4 (w_load none H4 v4) fun v5 H5 =>
  outP CC H5 (w_int .neq H5 v3 v5) fun v6 H6 =>
  condP v6
  (K (.bool false) H6)
  (outP CC H6 (w_int .add H6 x13 (.int .i64 1)) fun v7 H7 =>
  r0 (x0, x1, x12, v7) H7))
  (K (.bool true) H1)
theorem m_slices_Equal_api_Vec_int32tthtbl_eq (K : AV → AH → Prop) (r0 : (AV × AV × AV × AV) → AH → Prop) (a : TE) (H : AH) : codeP PP CC (subC (bodyC PP 65) [1, 1, 0, 1, 0, 0]) (m_slices_Equal_api_Vec_int32tthtb_k K r0) a H = m_slices_Equal_api_Vec_int32tthtbl K r0 (a 0) (a 1) (a 12) (a 13) H :=
  by kernel_rfl
def m_slices_Equal_api_Vec_int32tthtb (K : AV → AH → Prop) (x0 x1 x12 x13 : AV) (H : AH) : Prop :=
  loopP (fun (r0 : (AV × AV × AV × AV) → AH → Prop) (s : (AV × AV × AV × AV)) (H : AH) => m_slices_Equal_api_Vec_int32tthtbl K r0 s.1 s.2.1 s.2.2.1 s.2.2.2 H) (x0, x1, x12, x13) H
theorem m_slices_Equal_api_Vec_int32tthtb_eq (K : AV → AH → Prop) (a : TE) (H : AH) : codeP PP CC (subC (bodyC PP 65) [1, 1, 0, 1, 0]) (m_slices_Equal_api_Vec_int32ttht_k K) a H = m_slices_Equal_api_Vec_int32tthtb K (a 0) (a 1) (a 12) (a 13) H :=
  have h1 : codeP PP CC (subC (bodyC PP 65) [1, 1, 0, 1, 0]) (m_slices_Equal_api_Vec_int32ttht_k K) a H = loopP (fun (rec : KE) => codeP PP CC (subC (bodyC PP 65) [1, 1, 0, 1, 0, 0]) (exP rec (m_slices_Equal_api_Vec_int32ttht_k K))) a H := by kernel_rfl
  have h2 := loopP_iso (F := fun (rec : KE) => codeP PP CC (subC (bodyC PP 65) [1, 1, 0, 1, 0, 0]) (exP rec (m_slices_Equal_api_Vec_int32ttht_k K))) (S := (AV × AV × AV × AV)) (fun a => (a 0, a 1, a 12, a 13)) (fun (r0 : (AV × AV × AV × AV) → AH → Prop) (s : (AV × AV × AV × AV)) (H : AH) => m_slices_Equal_api_Vec_int32tthtbl K r0 s.1 s.2.1 s.2.2.1 s.2.2.2 H) (fun (r0 : (AV × AV × AV × AV) → AH → Prop) (a : TE) (H : AH) => (show codeP PP CC (subC (bodyC PP 65) [1, 1, 0, 1, 0, 0]) (exP (fun (a : TE) (H : AH) => r0 (a 0, a 1, a 12, a 13) H) (m_slices_Equal_api_Vec_int32ttht_k K)) a H = codeP PP CC (subC (bodyC PP 65) [1, 1, 0, 1, 0, 0]) (m_slices_Equal_api_Vec_int32tthtb_k K r0) a H from by kernel_rfl).trans (m_slices_Equal_api_Vec_int32tthtbl_eq K r0 a H)) a H
  h1.trans h2
theorem m_slices_Equal_api_Vec_int32ttht_eq (K : AV → AH → Prop) (a : TE) (H : AH) : codeP PP CC (subC (bodyC PP 65) [1, 1, 0, 1]) (m_slices_Equal_api_Vec_int32tt_k K) a H = m_slices_Equal_api_Vec_int32tthtb K (a 0) (a 1) (a 12) (a 13) H :=
  have h1 : codeP PP CC (subC (bodyC PP 65) [1, 1, 0, 1]) (m_slices_Equal_api_Vec_int32tt_k K) a H = codeP PP CC (subC (bodyC PP 65) [1, 1, 0, 1, 0]) (m_slices_Equal_api_Vec_int32ttht_k K) a H := by kernel_rfl
  h1.trans (m_slices_Equal_api_Vec_int32tthtb_eq K a H)
abbrev m_slices_Equal_api_Vec_int32tth_k (K : AV → AH → Prop) : KP := exP (fun (a : TE) (H : AH) => m_slices_Equal_api_Vec_int32tthtb K (a 0) (a 1) (a 12) (a 13) H) (m_slices_Equal_api_Vec_int32tt_k K)
def m_slices_Equal_api_Vec_int32tth (K : AV → AH → Prop) (x0 x1 : AV) (H : AH) : Prop :=
  outP CC H (w_len PP 49 H x0) fun v1 H1 =>
  m_slices_Equal_api_Vec_int32tthtb K x0 x1 v1 (.int .i64 0) H1
theorem m_slices_Equal_api_Vec_int32tth_eq (K : AV → AH → Prop) (a : TE) (H : AH) : codeP PP CC (subC (bodyC PP 65) [1, 1, 0]) (m_slices_Equal_api_Vec_int32tt_k K) a H = m_slices_Equal_api_Vec_int32tth K (a 0) (a 1) H :=
  have h1 : codeP PP CC (subC (bodyC PP 65) [1, 1, 0]) (m_slices_Equal_api_Vec_int32tt_k K) a H = codeP PP CC (subC (bodyC PP 65) [1, 1, 0, 0]) (exP (codeP PP CC (subC (bodyC PP 65) [1, 1, 0, 1]) (m_slices_Equal_api_Vec_int32tt_k K)) (m_slices_Equal_api_Vec_int32tt_k K)) a H := by kernel_rfl
  have h2 : codeP PP CC (subC (bodyC PP 65) [1, 1, 0, 0]) (exP (codeP PP CC (subC (bodyC PP 65) [1, 1, 0, 1]) (m_slices_Equal_api_Vec_int32tt_k K)) (m_slices_Equal_api_Vec_int32tt_k K)) a H = codeP PP CC (subC (bodyC PP 65) [1, 1, 0, 0]) (exP (fun (a : TE) (H : AH) => m_slices_Equal_api_Vec_int32tthtb K (a 0) (a 1) (a 12) (a 13) H) (m_slices_Equal_api_Vec_int32tt_k K)) a H := congrArg (fun k : KE => codeP PP CC (subC (bodyC PP 65) [1, 1, 0, 0]) (exP k (m_slices_Equal_api_Vec_int32tt_k K)) a H) (funext fun a => funext fun H => m_slices_Equal_api_Vec_int32ttht_eq K a H)
  have h2b : codeP PP CC (subC (bodyC PP 65) [1, 1, 0, 0]) (exP (fun (a : TE) (H : AH) => m_slices_Equal_api_Vec_int32tthtb K (a 0) (a 1) (a 12) (a 13) H) (m_slices_Equal_api_Vec_int32tt_k K)) a H = codeP PP CC (subC (bodyC PP 65) [1, 1, 0, 0]) (m_slices_Equal_api_Vec_int32tth_k K) a H := by kernel_rfl
  have h3 : codeP PP CC (subC (bodyC PP 65) [1, 1, 0, 0]) (m_slices_Equal_api_Vec_int32tth_k K) a H = m_slices_Equal_api_Vec_int32tth K (a 0) (a 1) H := by kernel_rfl
  ((h1.trans h2).trans h2b).trans h3
theorem m_slices_Equal_api_Vec_int32tt_eq (K : AV → AH → Prop) (a : TE) (H : AH) : codeP PP CC (subC (bodyC PP 65) [1, 1]) (m_slices_Equal_api_Vec_int32_K K) a H = m_slices_Equal_api_Vec_int32tth K (a 0) (a 1) H :=
  have h1 : codeP PP CC (subC (bodyC PP 65) [1, 1]) (m_slices_Equal_api_Vec_int32_K K) a H = codeP PP CC (subC (bodyC PP 65) [1, 1, 0]) (m_slices_Equal_api_Vec_int32tt_k K) a H := by kernel_rfl
  h1.trans (m_slices_Equal_api_Vec_int32tth_eq K a H)
abbrev m_slices_Equal_api_Vec_int32t_k (K : AV → AH → Prop) : KP := exP (fun (a : TE) (H : AH) => m_slices_Equal_api_Vec_int32tth K (a 0) (a 1) H) (m_slices_Equal_api_Vec_int32_K K)
def m_slices_Equal_api_Vec_int32t (K : AV → AH → Prop) (x0 x1 : AV) (H : AH) : Prop :=
  outP CC H (w_len PP 49 H x0) fun v1 H1 =>
  outP CC H1 (w_len PP 49 H1 x1) fun v2 H2 =>
  outP CC H2 (w_int .neq H2 v1 v2) fun v3 H3 =>
  condP v3
  (K (.bool false) H3)
  (m_slices_Equal_api_Vec_int32tth K x0 x1 H3)
theorem m_slices_Equal_api_Vec_int32t_eq (K : AV → AH → Prop) (a : TE) (H : AH) : codeP PP CC (subC (bodyC PP 65) [1]) (m_slices_Equal_api_Vec_int32_K K) a H = m_slices_Equal_api_Vec_int32t K (a 0) (a 1) H :=
  have h1 : codeP PP CC (subC (bodyC PP 65) [1]) (m_slices_Equal_api_Vec_int32_K K) a H = codeP PP CC (subC (bodyC PP 65) [1, 0]) (exP (codeP PP CC (subC (bodyC PP 65) [1, 1]) (m_slices_Equal_api_Vec_int32_K K)) (m_slices_Equal_api_Vec_int32_K K)) a H := by kernel_rfl
  have h2 : codeP PP CC (subC (bodyC PP 65) [1, 0]) (exP (codeP PP CC (subC (bodyC PP 65) [1, 1]) (m_slices_Equal_api_Vec_int32_K K)) (m_slices_Equal_api_Vec_int32_K K)) a H = codeP PP CC (subC (bodyC PP 65) [1, 0]) (exP (fun (a : TE) (H : AH) => m_slices_Equal_api_Vec_int32tth K (a 0) (a 1) H) (m_slices_Equal_api_Vec_int32_K K)) a H := congrArg (fun k : KE => codeP PP CC (subC (bodyC PP 65) [1, 0]) (exP k (m_slices_Equal_api_Vec_int32_K K)) a H) (funext fun a => funext fun H => m_slices_Equal_api_Vec_int32tt_eq K a H)
  have h2b : codeP PP CC (subC (bodyC PP 65) [1, 0]) (exP (fun (a : TE) (H : AH) => m_slices_Equal_api_Vec_int32tth K (a 0) (a 1) H) (m_slices_Equal_api_Vec_int32_K K)) a H = codeP PP CC (subC (bodyC PP 65) [1, 0]) (m_slices_Equal_api_Vec_int32t_k K) a H := by kernel_rfl
  have h3 : codeP PP CC (subC (bodyC PP 65) [1, 0]) (m_slices_Equal_api_Vec_int32t_k K) a H = m_slices_Equal_api_Vec_int32t K (a 0) (a 1) H := by kernel_rfl
  ((h1.trans h2).trans h2b).trans h3
abbrev m_slices_Equal_api_Vec_int32_k (K : AV → AH → Prop) : KP := exP (fun (a : TE) (H : AH) => m_slices_Equal_api_Vec_int32t K (a 0) (a 1) H) (m_slices_Equal_api_Vec_int32_K K)
def m_slices_Equal_api_Vec_int32 (K : AV → AH → Prop) (x0 x1 : AV) (H : AH) : Prop :=
  m_slices_Equal_api_Vec_int32t K x0 x1 H
theorem m_slices_Equal_api_Vec_int32_eq (K : AV → AH → Prop) (a : TE) (H : AH) : codeP PP CC (subC (bodyC PP 65) []) (m_slices_Equal_api_Vec_int32_K K) a H = m_slices_Equal_api_Vec_int32 K (a 0) (a 1) H :=
  have h1 : codeP PP CC (subC (bodyC PP 65) []) (m_slices_Equal_api_Vec_int32_K K) a H = codeP PP CC (subC (bodyC PP 65) [0]) (exP (codeP PP CC (subC (bodyC PP 65) [1]) (m_slices_Equal_api_Vec_int32_K K)) (m_slices_Equal_api_Vec_int32_K K)) a H := by kernel_rfl
  have h2 : codeP PP CC (subC (bodyC PP 65) [0]) (exP (codeP PP CC (subC (bodyC PP 65) [1]) (m_slices_Equal_api_Vec_int32_K K)) (m_slices_Equal_api_Vec_int32_K K)) a H = codeP PP CC (subC (bodyC PP 65) [0]) (exP (fun (a : TE) (H : AH) => m_slices_Equal_api_Vec_int32t K (a 0) (a 1) H) (m_slices_Equal_api_Vec_int32_K K)) a H := congrArg (fun k : KE => codeP PP CC (subC (bodyC PP 65) [0]) (exP k (m_slices_Equal_api_Vec_int32_K K)) a H) (funext fun a => funext fun H => m_slices_Equal_api_Vec_int32t_eq K a H)
  have h2b : codeP PP CC (subC (bodyC PP 65) [0]) (exP (fun (a : TE) (H : AH) => m_slices_Equal_api_Vec_int32t K (a 0) (a 1) H) (m_slices_Equal_api_Vec_int32_K K)) a H = codeP PP CC (subC (bodyC PP 65) [0]) (m_slices_Equal_api_Vec_int32_k K) a H := by kernel_rfl
  have h3 : codeP PP CC (subC (bodyC PP 65) [0]) (m_slices_Equal_api_Vec_int32_k K) a H = m_slices_Equal_api_Vec_int32 K (a 0) (a 1) H := by kernel_rfl
  ((h1.trans h2).trans h2b).trans h3
theorem m_slices_Equal_api_Vec_int32_ok (x0 x1 : AV) (H : AH) (K : AV → AH → Prop) (h : m_slices_Equal_api_Vec_int32 K x0 x1 H) : CC.call 65 [x0, x1] H K :=
  have h1 : funP PP CC 65 [x0, x1] H K = codeP PP CC (subC (bodyC PP 65) []) (m_slices_Equal_api_Vec_int32_K K) (argE [x0, x1]) H := by kernel_rfl
  have h2 : m_slices_Equal_api_Vec_int32 K (argE [x0, x1] 0) (argE [x0, x1] 1) H = m_slices_Equal_api_Vec_int32 K x0 x1 H := by kernel_rfl
  funP_ok (P := PP) (by kernel_rfl) (by kernel_rfl) ((h1.trans ((m_slices_Equal_api_Vec_int32_eq K (argE [x0, x1]) H).trans h2)).mpr h)

/-! 22: fieldfare/metric.Score -/
abbrev m_metric_Score_K (K : AV → AH → Prop) : KP := finP PP (resC PP 22) K
abbrev m_metric_Scorett_k (K : AV → AH → Prop) : KP := exP (codeP PP CC (subC (bodyC PP 22) [1, 1, 1]) (m_metric_Score_K K)) (m_metric_Score_K K)
abbrev m_metric_Scorettht_k (K : AV → AH → Prop) : KP := blockP 0 (m_metric_Scorett_k K)
abbrev m_metric_Scoretthtb_k (K : AV → AH → Prop) (r0 : (AV × AV × AV × AV × AV × AV) → AH → Prop) : KP := exP (fun (a : TE) (H : AH) => r0 (a 0, a 1, a 2, a 7, a 15, a 16) H) (m_metric_Scorettht_k K)
def m_metric_Scoretthtbl (K : AV → AH → Prop) (r0 : (AV × AV × AV × AV × AV × AV) → AH → Prop) (x0 x1 x2 x7 x15 x16 : AV) (H : AH) : Prop :=
  outP CC H (w_int .lss H x16 x15) fun v1 H1 =>
  condP v1
  (outP CC H1 (w_indexAddr (.sl 1) H1 x1 x16) fun v2 H2 =>
  outP CC H2 (w_load none H2 v2) fun v3 H3 =>
  outP CC H3 (w_conv (.int .i64) H3 v3 none) fun v4 H4 =>
  outP CC H4 (w_indexAddr (.sl 1) H4 x2 x16) fun v5 H5 =>
  outP CC H5 (w_load none H5 v5) fun v6 H6 =>
  outP CC H6 (w_conv (.int .i64) H6 v6 none) fun v7 H7 =>
  outP CC H7 (w_int .eql H7 x0 (.int .i64 1)) fun v8 H8 =>
  condP v8
  (outP CC H8 (w_int .sub H8 v4 v7) fun v9 H9 =>
  outP CC H9 (w_int .sub H9 v4 v7) fun v10 H10 =>
  outP CC H10 (w_int .mul H10 v9 v10) fun v11 H11 =>
  outP CC H11 (w_int .add H11 x7 v11) fun v12 H12 =>
  outP CC H12 (w_int .add H12 x16 (.int .i64 1)) fun v13 H13 =>
  r0 (x0, x1, x2, v12, x15, v13) H13)
  (outP CC H8 (w_int .eql H8 x0 (.int .i64 2)) fun v14 H14 =>
  condP v14
  (outP CC H14 (w_int .mul H14 v4 v7) fun v15 H15 =>
  outP CC H15 (w_int .sub H15 x7 v15) fun v16 H16 =>
  outP CC H16 (w_int .add H16 x16 (.int .i64 1)) fun v17 H17 =>
  r0 (x0, x1, x2, v16, x15, v17) H17)
  (outP CC H14 (w_int .add H14 x16 (.int .i64 1)) fun v18 H18 =>
  r0 (x0, x1, x2, x7, x15, v18) H18)))
  (K x7 H1)
theorem m_metric_Scoretthtbl_eq (K : AV → AH → Prop) (r0 : (AV × AV × AV × AV × AV × AV) → AH → Prop) (a : TE) (H : AH) : codeP PP CC (subC (bodyC PP 22) [1, 1, 0, 1, 0, 0]) (m_metric_Scoretthtb_k K r0) a H = m_metric_Scoretthtbl K r0 (a 0) (a 1) (a 2) (a 7) (a 15) (a 16) H :=
  by kernel_rfl
def m_metric_Scoretthtb (K : AV → AH → Prop) (x0 x1 x2 x7 x15 x16 : AV) (H : AH) : Prop :=
  loopP (fun (r0 : (AV × AV × AV × AV × AV × AV) → AH → Prop) (s : (AV × AV × AV × AV × AV × AV)) (H : AH) => m_metric_Scoretthtbl K r0 s.1 s.2.1 s.2.2.1 s.2.2.2.1 s.2.2.2.2.1 s.2.2.2.2.2 H) (x0, x1, x2, x7, x15, x16) H
theorem m_metric_Scoretthtb_eq (K : AV → AH → Prop) (a : TE) (H : AH) : codeP PP CC (subC (bodyC PP 22) [1, 1, 0, 1, 0]) (m_metric_Scorettht_k K) a H = m_metric_Scoretthtb K (a 0) (a 1) (a 2) (a 7) (a 15) (a 16) H :=
  have h1 : codeP PP CC (subC (bodyC PP 22) [1, 1, 0, 1, 0]) (m_metric_Scorettht_k K) a H = loopP (fun (rec : KE) => codeP PP CC (subC (bodyC PP 22) [1, 1, 0, 1, 0, 0]) (exP rec (m_metric_Scorettht_k K))) a H := by kernel_rfl
  have h2 := loopP_iso (F := fun (rec : KE) => codeP PP CC (subC (bodyC PP 22) [1, 1, 0, 1, 0, 0]) (exP rec (m_metric_Scorettht_k K))) (S := (AV × AV × AV × AV × AV × AV)) (fun a => (a 0, a 1, a 2, a 7, a 15, a 16)) (fun (r0 : (AV × AV × AV × AV × AV × AV) → AH → Prop) (s : (AV × AV × AV × AV × AV × AV)) (H : AH) => m_metric_Scoretthtbl K r0 s.1 s.2.1 s.2.2.1 s.2.2.2.1 s.2.2.2.2.1 s.2.2.2.2.2 H) (fun (r0 : (AV × AV × AV × AV × AV × AV) → AH → Prop) (a : TE) (H : AH) => (show codeP PP CC (subC (bodyC PP 22) [1, 1, 0, 1, 0, 0]) (exP (fun (a : TE) (H : AH) => r0 (a 0, a 1, a 2, a 7, a 15, a 16) H) (m_metric_Scorettht_k K)) a H = codeP PP CC (subC (bodyC PP 22) [1, 1, 0, 1, 0, 0]) (m_metric_Scoretthtb_k K r0) a H from by kernel_rfl).trans (m_metric_Scoretthtbl_eq K r0 a H)) a H
  h1.trans h2
theorem m_metric_Scorettht_eq (K : AV → AH → Prop) (a : TE) (H : AH) : codeP PP CC (subC (bodyC PP 22) [1, 1, 0, 1]) (m_metric_Scorett_k K) a H = m_metric_Scoretthtb K (a 0) (a 1) (a 2) (a 7) (a 15) (a 16) H :=
  have h1 : codeP PP CC (subC (bodyC PP 22) [1, 1, 0, 1]) (m_metric_Scorett_k K) a H = codeP PP CC (subC (bodyC PP 22) [1, 1, 0, 1, 0]) (m_metric_Scorettht_k K) a H := by kernel_rfl
  h1.trans (m_metric_Scoretthtb_eq K a H)
abbrev m_metric_Scoretth_k (K : AV → AH → Prop) : KP := exP (fun (a : TE) (H : AH) => m_metric_Scoretthtb K (a 0) (a 1) (a 2) (a 7) (a 15) (a 16) H) (m_metric_Scorett_k K)
def m_metric_Scoretth (K : AV → AH → Prop) (x0 x1 x2 x7 : AV) (H : AH) : Prop :=
  outP CC H (w_len PP 49 H x1) fun v1 H1 =>
  outP CC H1 (w_len PP 49 H1 x2) fun v2 H2 =>
  outP CC H2 (w_min2 H2 v1 v2) fun v3 H3 =>
  m_metric_Scoretthtb K x0 x1 x2 x7 v3 (.int .i64 0) H3
theorem m_metric_Scoretth_eq (K : AV → AH → Prop) (a : TE) (H : AH) : codeP PP CC (subC (bodyC PP 22) [1, 1, 0]) (m_metric_Scorett_k K) a H = m_metric_Scoretth K (a 0) (a 1) (a 2) (a 7) H :=
  have h1 : codeP PP CC (subC (bodyC PP 22) [1, 1, 0]) (m_metric_Scorett_k K) a H = codeP PP CC (subC (bodyC PP 22) [1, 1, 0, 0]) (exP (codeP PP CC (subC (bodyC PP 22) [1, 1, 0, 1]) (m_metric_Scorett_k K)) (m_metric_Scorett_k K)) a H := by kernel_rfl
  have h2 : codeP PP CC (subC (bodyC PP 22) [1, 1, 0, 0]) (exP (codeP PP CC (subC (bodyC PP 22) [1, 1, 0, 1]) (m_metric_Scorett_k K)) (m_metric_Scorett_k K)) a H = codeP PP CC (subC (bodyC PP 22) [1, 1, 0, 0]) (exP (fun (a : TE) (H : AH) => m_metric_Scoretthtb K (a 0) (a 1) (a 2) (a 7) (a 15) (a 16) H) (m_metric_Scorett_k K)) a H := congrArg (fun k : KE => codeP PP CC (subC (bodyC PP 22) [1, 1, 0, 0]) (exP k (m_metric_Scorett_k K)) a H) (funext fun a => funext fun H => m_metric_Scorettht_eq K a H)
  have h2b : codeP PP CC (subC (bodyC PP 22) [1, 1, 0, 0]) (exP (fun (a : TE) (H : AH) => m_metric_Scoretthtb K (a 0) (a 1) (a 2) (a 7) (a 15) (a 16) H) (m_metric_Scorett_k K)) a H = codeP PP CC (subC (bodyC PP 22) [1, 1, 0, 0]) (m_metric_Scoretth_k K) a H := by kernel_rfl
  have h3 : codeP PP CC (subC (bodyC PP 22) [1, 1, 0, 0]) (m_metric_Scoretth_k K) a H = m_metric_Scoretth K (a 0) (a 1) (a 2) (a 7) H := by kernel_rfl
  ((h1.trans h2).trans h2b).trans h3
theorem m_metric_Scorett_eq (K : AV → AH → Prop) (a : TE) (H : AH) : codeP PP CC (subC (bodyC PP 22) [1, 1]) (m_metric_Score_K K) a H = m_metric_Scoretth K (a 0) (a 1) (a 2) (a 7) H :=
  have h1 : codeP PP CC (subC (bodyC PP 22) [1, 1]) (m_metric_Score_K K) a H = codeP PP CC (subC (bodyC PP 22) [1, 1, 0]) (m_metric_Scorett_k K) a H := by kernel_rfl
  h1.trans (m_metric_Scoretth_eq K a H)
abbrev m_metric_Scoret_k (K : AV → AH → Prop) : KP := exP (fun (a : TE) (H : AH) => m_metric_Scoretth K (a 0) (a 1) (a 2) (a 7) H) (m_metric_Score_K K)
def m_metric_Scoret (K : AV → AH → Prop) (x0 x1 x2 : AV) (H : AH) : Prop :=
  m_metric_Scoretth K x0 x1 x2 (.int .i64 0) H
theorem m_metric_Scoret_eq (K : AV → AH → Prop) (a : TE) (H : AH) : codeP PP CC (subC (bodyC PP 22) [1]) (m_metric_Score_K K) a H = m_metric_Scoret K (a 0) (a 1) (a 2) H :=
  have h1 : codeP PP CC (subC (bodyC PP 22) [1]) (m_metric_Score_K K) a H = codeP PP CC (subC (bodyC PP 22) [1, 0]) (exP (codeP PP CC (subC (bodyC PP 22) [1, 1]) (m_metric_Score_K K)) (m_metric_Score_K K)) a H := by kernel_rfl
  have h2 : codeP PP CC (subC (bodyC PP 22) [1, 0]) (exP (codeP PP CC (subC (bodyC PP 22) [1, 1]) (m_metric_Score_K K)) (m_metric_Score_K K)) a H = codeP PP CC (subC (bodyC PP 22) [1, 0]) (exP (fun (a : TE) (H : AH) => m_metric_Scoretth K (a 0) (a 1) (a 2) (a 7) H) (m_metric_Score_K K)) a H := congrArg (fun k : KE => codeP PP CC (subC (bodyC PP 22) [1, 0]) (exP k (m_metric_Score_K K)) a H) (funext fun a => funext fun H => m_metric_Scorett_eq K a H)
  have h2b : codeP PP CC (subC (bodyC PP 22) [1, 0]) (exP (fun (a : TE) (H : AH) => m_metric_Scoretth K (a 0) (a 1) (a 2) (a 7) H) (m_metric_Score_K K)) a H = codeP PP CC (subC (bodyC PP 22) [1, 0]) (m_metric_Scoret_k K) a H := by kernel_rfl
  have h3 : codeP PP CC (subC (bodyC PP 22) [1, 0]) (m_metric_Scoret_k K) a H = m_metric_Scoret K (a 0) (a 1) (a 2) H := by kernel_rfl
  ((h1.trans h2).trans h2b).trans h3
abbrev m_metric_Score_k (K : AV → AH → Prop) : KP := exP (fun (a : TE) (H : AH) => m_metric_Scoret K (a 0) (a 1) (a 2) H) (m_metric_Score_K K)
def m_metric_Score (K : AV → AH → Prop) (x0 x1 x2 : AV) (H : AH) : Prop :=
  m_metric_Scoret K x0 x1 x2 H
theorem m_metric_Score_eq (K : AV → AH → Prop) (a : TE) (H : AH) : codeP PP CC (subC (bodyC PP 22) []) (m_metric_Score_K K) a H = m_metric_Score K (a 0) (a 1) (a 2) H :=
  have h1 : codeP PP CC (subC (bodyC PP 22) []) (m_metric_Score_K K) a H = codeP PP CC (subC (bodyC PP 22) [0]) (exP (codeP PP CC (subC (bodyC PP 22) [1]) (m_metric_Score_K K)) (m_metric_Score_K K)) a H := by kernel_rfl
  have h2 : codeP PP CC (subC (bodyC PP 22) [0]) (exP (codeP PP CC (subC (bodyC PP 22) [1]) (m_metric_Score_K K)) (m_metric_Score_K K)) a H = codeP PP CC (subC (bodyC PP 22) [0]) (exP (fun (a : TE) (H : AH) => m_metric_Scoret K (a 0) (a 1) (a 2) H) (m_metric_Score_K K)) a H := congrArg (fun k : KE => codeP PP CC (subC (bodyC PP 22) [0]) (exP k (m_metric_Score_K K)) a H) (funext fun a => funext fun H => m_metric_Scoret_eq K a H)
  have h2b : codeP PP CC (subC (bodyC PP 22) [0]) (exP (fun (a : TE) (H : AH) => m_metric_Scoret K (a 0) (a 1) (a 2) H) (m_metric_Score_K K)) a H = codeP PP CC (subC (bodyC PP 22) [0]) (m_metric_Score_k K) a H := by kernel_rfl
  have h3 : codeP PP CC (subC (bodyC PP 22) [0]) (m_metric_Score_k K) a H = m_metric_Score K (a 0) (a 1) (a 2) H := by kernel_rfl
  ((h1.trans h2).trans h2b).trans h3
theorem m_metric_Score_ok (x0 x1 x2 : AV) (H : AH) (K : AV → AH → Prop) (h : m_metric_Score K x0 x1 x2 H) : CC.call 22 [x0, x1, x2] H K :=
  have h1 : funP PP CC 22 [x0, x1, x2] H K = codeP PP CC (subC (bodyC PP 22) []) (m_metric_Score_K K) (argE [x0, x1, x2]) H := by kernel_rfl
  have h2 : m_metric_Score K (argE [x0, x1, x2] 0) (argE [x0, x1, x2] 1) (argE [x0, x1, x2] 2) H = m_metric_Score K x0 x1 x2 H := by kernel_rfl
  funP_ok (P := PP) (by kernel_rfl) (by kernel_rfl) ((h1.trans ((m_metric_Score_eq K (argE [x0, x1, x2]) H).trans h2)).mpr h)

end
end Go.Ab
