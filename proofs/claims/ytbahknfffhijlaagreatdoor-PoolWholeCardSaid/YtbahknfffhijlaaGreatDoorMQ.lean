/- What functions do, said as what the evaluator does. Printed by a program. -/
import Derived.Test.YtbahknfffhijlaaGreatDoorBeg
import Derived.Test.YtbahknfffhijlaaGreatDoorEv3
namespace Go.Ab
noncomputable section
open Go.Proofs
set_option maxRecDepth 100000



/-! 18: fieldfare/quant.Code -/
abbrev m_quant_Code_K (K : AV → AH → Prop) : KP := finP PP (resC PP 18) K
abbrev m_quant_Codettt_k (K : AV → AH → Prop) : KP := exP (codeP PP CC (subC (bodyC PP 18) [1, 1, 1, 1]) (m_quant_Code_K K)) (m_quant_Code_K K)
abbrev m_quant_Codetttht_k (K : AV → AH → Prop) : KP := blockP 0 (m_quant_Codettt_k K)
abbrev m_quant_Codettthtb_k (K : AV → AH → Prop) (r0 : (AV × AV × AV × AV × AV) → AH → Prop) : KP := exP (fun (a : TE) (H : AH) => r0 (a 1, a 2, a 5, a 17, a 18) H) (m_quant_Codetttht_k K)
def m_quant_Codettthtbl (K : AV → AH → Prop) (r0 : (AV × AV × AV × AV × AV) → AH → Prop) (x1 x2 x5 x17 x18 : AV) (H : AH) : Prop :=
  outP CC H (w_int .lss H x18 x17) fun v1 H1 =>
  condP v1
  (outP CC H1 (w_len PP 49 H1 x1) fun v2 H2 =>
  outP CC H2 (w_int .lss H2 x18 v2) fun v3 H3 =>
  condP v3
  (outP CC H3 (w_fieldAddr 0 H3 x2) fun v4 H4 =>
  outP CC H4 (w_load none H4 v4) fun v5 H5 =>
  outP CC H5 (w_indexAddr (.sl 1) H5 v5 x18) fun v6 H6 =>
  outP CC H6 (w_load none H6 v6) fun v7 H7 =>
  outP CC H7 (w_conv (.int .i64) H7 v7 none) fun v8 H8 =>
  outP CC H8 (w_fieldAddr 1 H8 x2) fun v9 H9 =>
  outP CC H9 (w_load none H9 v9) fun v10 H10 =>
  outP CC H10 (w_indexAddr (.sl 1) H10 v10 x18) fun v11 H11 =>
  outP CC H11 (w_load none H11 v11) fun v12 H12 =>
  outP CC H12 (w_conv (.int .i64) H12 v12 none) fun v13 H13 =>
  outP CC H13 (w_indexAddr (.sl 1) H13 x1 x18) fun v14 H14 =>
  outP CC H14 (w_load none H14 v14) fun v15 H15 =>
  outP CC H15 (w_conv (.int .i64) H15 v15 none) fun v16 H16 =>
  outP CC H16 (w_int .sub H16 v16 v8) fun v17 H17 =>
  outP CC H17 (w_int .quo H17 v13 (.int .i64 2)) fun v18 H18 =>
  outP CC H18 (w_int .add H18 v17 v18) fun v19 H19 =>
  outP CC H19 (some (.enter 43 [v19, v13])) fun v20 H20 =>
  outP CC H20 (w_max2 H20 v20 (.int .i64 0)) fun v21 H21 =>
  outP CC H21 (w_min2 H21 v21 (.int .i64 255)) fun v22 H22 =>
  outP CC H22 (w_conv (.int .u8) H22 v22 none) fun v23 H23 =>
  outP CC H23 (w_indexAddr (.sl 1) H23 x5 x18) fun v24 H24 =>
  outP CC H24 (w_store 1 H24 v24 v23) fun _v25 H25 =>
  outP CC H25 (w_int .add H25 x18 (.int .i64 1)) fun v26 H26 =>
  r0 (x1, x2, x5, x17, v26) H26)
  (outP CC H3 (w_int .add H3 x18 (.int .i64 1)) fun v27 H27 =>
  r0 (x1, x2, x5, x17, v27) H27))
  (K x5 H1)
theorem m_quant_Codettthtbl_eq (K : AV → AH → Prop) (r0 : (AV × AV × AV × AV × AV) → AH → Prop) (a : TE) (H : AH) : codeP PP CC (subC (bodyC PP 18) [1, 1, 1, 0, 1, 0, 0]) (m_quant_Codettthtb_k K r0) a H = m_quant_Codettthtbl K r0 (a 1) (a 2) (a 5) (a 17) (a 18) H :=
  by kernel_rfl
def m_quant_Codettthtb (K : AV → AH → Prop) (x1 x2 x5 x17 x18 : AV) (H : AH) : Prop :=
  loopP (fun (r0 : (AV × AV × AV × AV × AV) → AH → Prop) (s : (AV × AV × AV × AV × AV)) (H : AH) => m_quant_Codettthtbl K r0 s.1 s.2.1 s.2.2.1 s.2.2.2.1 s.2.2.2.2 H) (x1, x2, x5, x17, x18) H
theorem m_quant_Codettthtb_eq (K : AV → AH → Prop) (a : TE) (H : AH) : codeP PP CC (subC (bodyC PP 18) [1, 1, 1, 0, 1, 0]) (m_quant_Codetttht_k K) a H = m_quant_Codettthtb K (a 1) (a 2) (a 5) (a 17) (a 18) H :=
  have h1 : codeP PP CC (subC (bodyC PP 18) [1, 1, 1, 0, 1, 0]) (m_quant_Codetttht_k K) a H = loopP (fun (rec : KE) => codeP PP CC (subC (bodyC PP 18) [1, 1, 1, 0, 1, 0, 0]) (exP rec (m_quant_Codetttht_k K))) a H := by kernel_rfl
  have h2 := loopP_iso (F := fun (rec : KE) => codeP PP CC (subC (bodyC PP 18) [1, 1, 1, 0, 1, 0, 0]) (exP rec (m_quant_Codetttht_k K))) (S := (AV × AV × AV × AV × AV)) (fun a => (a 1, a 2, a 5, a 17, a 18)) (fun (r0 : (AV × AV × AV × AV × AV) → AH → Prop) (s : (AV × AV × AV × AV × AV)) (H : AH) => m_quant_Codettthtbl K r0 s.1 s.2.1 s.2.2.1 s.2.2.2.1 s.2.2.2.2 H) (fun (r0 : (AV × AV × AV × AV × AV) → AH → Prop) (a : TE) (H : AH) => (show codeP PP CC (subC (bodyC PP 18) [1, 1, 1, 0, 1, 0, 0]) (exP (fun (a : TE) (H : AH) => r0 (a 1, a 2, a 5, a 17, a 18) H) (m_quant_Codetttht_k K)) a H = codeP PP CC (subC (bodyC PP 18) [1, 1, 1, 0, 1, 0, 0]) (m_quant_Codettthtb_k K r0) a H from by kernel_rfl).trans (m_quant_Codettthtbl_eq K r0 a H)) a H
  h1.trans h2
theorem m_quant_Codetttht_eq (K : AV → AH → Prop) (a : TE) (H : AH) : codeP PP CC (subC (bodyC PP 18) [1, 1, 1, 0, 1]) (m_quant_Codettt_k K) a H = m_quant_Codettthtb K (a 1) (a 2) (a 5) (a 17) (a 18) H :=
  have h1 : codeP PP CC (subC (bodyC PP 18) [1, 1, 1, 0, 1]) (m_quant_Codettt_k K) a H = codeP PP CC (subC (bodyC PP 18) [1, 1, 1, 0, 1, 0]) (m_quant_Codetttht_k K) a H := by kernel_rfl
  h1.trans (m_quant_Codettthtb_eq K a H)
abbrev m_quant_Codettth_k (K : AV → AH → Prop) : KP := exP (fun (a : TE) (H : AH) => m_quant_Codettthtb K (a 1) (a 2) (a 5) (a 17) (a 18) H) (m_quant_Codettt_k K)
def m_quant_Codettth (K : AV → AH → Prop) (x1 x2 x5 : AV) (H : AH) : Prop :=
  outP CC H (w_len PP 43 H x5) fun v1 H1 =>
  m_quant_Codettthtb K x1 x2 x5 v1 (.int .i64 0) H1
theorem m_quant_Codettth_eq (K : AV → AH → Prop) (a : TE) (H : AH) : codeP PP CC (subC (bodyC PP 18) [1, 1, 1, 0]) (m_quant_Codettt_k K) a H = m_quant_Codettth K (a 1) (a 2) (a 5) H :=
  have h1 : codeP PP CC (subC (bodyC PP 18) [1, 1, 1, 0]) (m_quant_Codettt_k K) a H = codeP PP CC (subC (bodyC PP 18) [1, 1, 1, 0, 0]) (exP (codeP PP CC (subC (bodyC PP 18) [1, 1, 1, 0, 1]) (m_quant_Codettt_k K)) (m_quant_Codettt_k K)) a H := by kernel_rfl
  have h2 : codeP PP CC (subC (bodyC PP 18) [1, 1, 1, 0, 0]) (exP (codeP PP CC (subC (bodyC PP 18) [1, 1, 1, 0, 1]) (m_quant_Codettt_k K)) (m_quant_Codettt_k K)) a H = codeP PP CC (subC (bodyC PP 18) [1, 1, 1, 0, 0]) (exP (fun (a : TE) (H : AH) => m_quant_Codettthtb K (a 1) (a 2) (a 5) (a 17) (a 18) H) (m_quant_Codettt_k K)) a H := congrArg (fun k : KE => codeP PP CC (subC (bodyC PP 18) [1, 1, 1, 0, 0]) (exP k (m_quant_Codettt_k K)) a H) (funext fun a => funext fun H => m_quant_Codetttht_eq K a H)
  have h2b : codeP PP CC (subC (bodyC PP 18) [1, 1, 1, 0, 0]) (exP (fun (a : TE) (H : AH) => m_quant_Codettthtb K (a 1) (a 2) (a 5) (a 17) (a 18) H) (m_quant_Codettt_k K)) a H = codeP PP CC (subC (bodyC PP 18) [1, 1, 1, 0, 0]) (m_quant_Codettth_k K) a H := by kernel_rfl
  have h3 : codeP PP CC (subC (bodyC PP 18) [1, 1, 1, 0, 0]) (m_quant_Codettth_k K) a H = m_quant_Codettth K (a 1) (a 2) (a 5) H := by kernel_rfl
  ((h1.trans h2).trans h2b).trans h3
theorem m_quant_Codettt_eq (K : AV → AH → Prop) (a : TE) (H : AH) : codeP PP CC (subC (bodyC PP 18) [1, 1, 1]) (m_quant_Code_K K) a H = m_quant_Codettth K (a 1) (a 2) (a 5) H :=
  have h1 : codeP PP CC (subC (bodyC PP 18) [1, 1, 1]) (m_quant_Code_K K) a H = codeP PP CC (subC (bodyC PP 18) [1, 1, 1, 0]) (m_quant_Codettt_k K) a H := by kernel_rfl
  h1.trans (m_quant_Codettth_eq K a H)
abbrev m_quant_Codett_k (K : AV → AH → Prop) : KP := exP (fun (a : TE) (H : AH) => m_quant_Codettth K (a 1) (a 2) (a 5) H) (m_quant_Code_K K)
def m_quant_Codett (K : AV → AH → Prop) (x1 x2 : AV) (H : AH) : Prop :=
  outP CC H (w_fieldAddr 0 H x2) fun v1 H1 =>
  outP CC H1 (w_load none H1 v1) fun v2 H2 =>
  outP CC H2 (w_len PP 48 H2 v2) fun v3 H3 =>
  outP CC H3 (w_makeSlice PP 5 H3 v3 v3 none) fun v4 H4 =>
  m_quant_Codettth K x1 x2 v4 H4
theorem m_quant_Codett_eq (K : AV → AH → Prop) (a : TE) (H : AH) : codeP PP CC (subC (bodyC PP 18) [1, 1]) (m_quant_Code_K K) a H = m_quant_Codett K (a 1) (a 2) H :=
  have h1 : codeP PP CC (subC (bodyC PP 18) [1, 1]) (m_quant_Code_K K) a H = codeP PP CC (subC (bodyC PP 18) [1, 1, 0]) (exP (codeP PP CC (subC (bodyC PP 18) [1, 1, 1]) (m_quant_Code_K K)) (m_quant_Code_K K)) a H := by kernel_rfl
  have h2 : codeP PP CC (subC (bodyC PP 18) [1, 1, 0]) (exP (codeP PP CC (subC (bodyC PP 18) [1, 1, 1]) (m_quant_Code_K K)) (m_quant_Code_K K)) a H = codeP PP CC (subC (bodyC PP 18) [1, 1, 0]) (exP (fun (a : TE) (H : AH) => m_quant_Codettth K (a 1) (a 2) (a 5) H) (m_quant_Code_K K)) a H := congrArg (fun k : KE => codeP PP CC (subC (bodyC PP 18) [1, 1, 0]) (exP k (m_quant_Code_K K)) a H) (funext fun a => funext fun H => m_quant_Codettt_eq K a H)
  have h2b : codeP PP CC (subC (bodyC PP 18) [1, 1, 0]) (exP (fun (a : TE) (H : AH) => m_quant_Codettth K (a 1) (a 2) (a 5) H) (m_quant_Code_K K)) a H = codeP PP CC (subC (bodyC PP 18) [1, 1, 0]) (m_quant_Codett_k K) a H := by kernel_rfl
  have h3 : codeP PP CC (subC (bodyC PP 18) [1, 1, 0]) (m_quant_Codett_k K) a H = m_quant_Codett K (a 1) (a 2) H := by kernel_rfl
  ((h1.trans h2).trans h2b).trans h3
abbrev m_quant_Codet_k (K : AV → AH → Prop) : KP := exP (fun (a : TE) (H : AH) => m_quant_Codett K (a 1) (a 2) H) (m_quant_Code_K K)
def m_quant_Codet (K : AV → AH → Prop) (x1 x2 : AV) (H : AH) : Prop :=
  outP CC H (w_load (some 2) H x2) fun v1 H1 =>
  outP CC H1 (some (.enter 42 [v1])) fun v2 H2 =>
  outP CC H2 (w_un .not H2 v2) fun v3 H3 =>
  condP v3
  (K (.slice none 0 0 true) H3)
  (m_quant_Codett K x1 x2 H3)
theorem m_quant_Codet_eq (K : AV → AH → Prop) (a : TE) (H : AH) : codeP PP CC (subC (bodyC PP 18) [1]) (m_quant_Code_K K) a H = m_quant_Codet K (a 1) (a 2) H :=
  have h1 : codeP PP CC (subC (bodyC PP 18) [1]) (m_quant_Code_K K) a H = codeP PP CC (subC (bodyC PP 18) [1, 0]) (exP (codeP PP CC (subC (bodyC PP 18) [1, 1]) (m_quant_Code_K K)) (m_quant_Code_K K)) a H := by kernel_rfl
  have h2 : codeP PP CC (subC (bodyC PP 18) [1, 0]) (exP (codeP PP CC (subC (bodyC PP 18) [1, 1]) (m_quant_Code_K K)) (m_quant_Code_K K)) a H = codeP PP CC (subC (bodyC PP 18) [1, 0]) (exP (fun (a : TE) (H : AH) => m_quant_Codett K (a 1) (a 2) H) (m_quant_Code_K K)) a H := congrArg (fun k : KE => codeP PP CC (subC (bodyC PP 18) [1, 0]) (exP k (m_quant_Code_K K)) a H) (funext fun a => funext fun H => m_quant_Codett_eq K a H)
  have h2b : codeP PP CC (subC (bodyC PP 18) [1, 0]) (exP (fun (a : TE) (H : AH) => m_quant_Codett K (a 1) (a 2) H) (m_quant_Code_K K)) a H = codeP PP CC (subC (bodyC PP 18) [1, 0]) (m_quant_Codet_k K) a H := by kernel_rfl
  have h3 : codeP PP CC (subC (bodyC PP 18) [1, 0]) (m_quant_Codet_k K) a H = m_quant_Codet K (a 1) (a 2) H := by kernel_rfl
  ((h1.trans h2).trans h2b).trans h3
abbrev m_quant_Code_k (K : AV → AH → Prop) : KP := exP (fun (a : TE) (H : AH) => m_quant_Codet K (a 1) (a 2) H) (m_quant_Code_K K)
def m_quant_Code (K : AV → AH → Prop) (x0 x1 : AV) (H : AH) : Prop :=
  outP CC H (w_box 55 H x0 none) fun v1 H1 =>
  m_quant_Codet K x1 v1 H1
theorem m_quant_Code_eq (K : AV → AH → Prop) (a : TE) (H : AH) : codeP PP CC (subC (bodyC PP 18) []) (m_quant_Code_K K) a H = m_quant_Code K (a 0) (a 1) H :=
  have h1 : codeP PP CC (subC (bodyC PP 18) []) (m_quant_Code_K K) a H = codeP PP CC (subC (bodyC PP 18) [0]) (exP (codeP PP CC (subC (bodyC PP 18) [1]) (m_quant_Code_K K)) (m_quant_Code_K K)) a H := by kernel_rfl
  have h2 : codeP PP CC (subC (bodyC PP 18) [0]) (exP (codeP PP CC (subC (bodyC PP 18) [1]) (m_quant_Code_K K)) (m_quant_Code_K K)) a H = codeP PP CC (subC (bodyC PP 18) [0]) (exP (fun (a : TE) (H : AH) => m_quant_Codet K (a 1) (a 2) H) (m_quant_Code_K K)) a H := congrArg (fun k : KE => codeP PP CC (subC (bodyC PP 18) [0]) (exP k (m_quant_Code_K K)) a H) (funext fun a => funext fun H => m_quant_Codet_eq K a H)
  have h2b : codeP PP CC (subC (bodyC PP 18) [0]) (exP (fun (a : TE) (H : AH) => m_quant_Codet K (a 1) (a 2) H) (m_quant_Code_K K)) a H = codeP PP CC (subC (bodyC PP 18) [0]) (m_quant_Code_k K) a H := by kernel_rfl
  have h3 : codeP PP CC (subC (bodyC PP 18) [0]) (m_quant_Code_k K) a H = m_quant_Code K (a 0) (a 1) H := by kernel_rfl
  ((h1.trans h2).trans h2b).trans h3
theorem m_quant_Code_ok (x0 x1 : AV) (H : AH) (K : AV → AH → Prop) (h : m_quant_Code K x0 x1 H) : CC.call 18 [x0, x1] H K :=
  have h1 : funP PP CC 18 [x0, x1] H K = codeP PP CC (subC (bodyC PP 18) []) (m_quant_Code_K K) (argE [x0, x1]) H := by kernel_rfl
  have h2 : m_quant_Code K (argE [x0, x1] 0) (argE [x0, x1] 1) H = m_quant_Code K x0 x1 H := by kernel_rfl
  funP_ok (P := PP) (by kernel_rfl) (by kernel_rfl) ((h1.trans ((m_quant_Code_eq K (argE [x0, x1]) H).trans h2)).mpr h)

/-! 42: fieldfare/quant.right -/
abbrev m_quant_right_K (K : AV → AH → Prop) : KP := finP PP (resC PP 42) K
def m_quant_right (K : AV → AH → Prop) (x0 : AV) (H : AH) : Prop :=
  outP CC H (w_box 55 H x0 none) fun v1 H1 =>
  outP CC H1 (w_fieldAddr 0 H1 v1) fun v2 H2 =>
  outP CC H2 (w_load none H2 v2) fun v3 H3 =>
  outP CC H3 (w_len PP 48 H3 v3) fun v4 H4 =>
  outP CC H4 (w_fieldAddr 1 H4 v1) fun v5 H5 =>
  outP CC H5 (w_load none H5 v5) fun v6 H6 =>
  outP CC H6 (w_len PP 48 H6 v6) fun v7 H7 =>
  outP CC H7 (w_int .eql H7 v4 v7) fun v8 H8 =>
  guardP (boolIs true v8) H8 (outP CC H8 (w_fieldAddr 1 H8 v1)) fun v9 H9 =>
  guardP (boolIs true v8) H9 (outP CC H9 (w_load none H9 v9)) fun v10 H10 =>
  guardP (boolIs true v8) H10 (outP CC H10 (some (.enter 63 [v10, (.fn (.func 64) [] [])]))) fun v11 H11 =>
  guardP (boolIs true v8) H11 (outP CC H11 (w_un .not H11 v11)) fun v12 H12 =>
  outP CC H12 (w_pick H12 v8 v12 (.bool false)) fun v13 H13 =>
  K v13 H13
theorem m_quant_right_eq (K : AV → AH → Prop) (a : TE) (H : AH) : codeP PP CC (subC (bodyC PP 42) []) (m_quant_right_K K) a H = m_quant_right K (a 0) H :=
  by kernel_rfl
theorem m_quant_right_ok (x0 : AV) (H : AH) (K : AV → AH → Prop) (h : m_quant_right K x0 H) : CC.call 42 [x0] H K :=
  have h1 : funP PP CC 42 [x0] H K = codeP PP CC (subC (bodyC PP 42) []) (m_quant_right_K K) (argE [x0]) H := by kernel_rfl
  have h2 : m_quant_right K (argE [x0] 0) H = m_quant_right K x0 H := by kernel_rfl
  funP_ok (P := PP) (by kernel_rfl) (by kernel_rfl) ((h1.trans ((m_quant_right_eq K (argE [x0]) H).trans h2)).mpr h)

/-! 43: fieldfare/quant.floor -/
abbrev m_quant_floor_K (K : AV → AH → Prop) : KP := finP PP (resC PP 43) K
def m_quant_floor (K : AV → AH → Prop) (x0 x1 : AV) (H : AH) : Prop :=
  outP CC H (w_int .quo H x0 x1) fun v1 H1 =>
  outP CC H1 (w_int .rem H1 x0 x1) fun v2 H2 =>
  outP CC H2 (w_int .lss H2 v2 (.int .i64 0)) fun v3 H3 =>
  condP v3
  (outP CC H3 (w_int .sub H3 v1 (.int .i64 1)) fun v4 H4 =>
  K v4 H4)
  (K v1 H3)
theorem m_quant_floor_eq (K : AV → AH → Prop) (a : TE) (H : AH) : codeP PP CC (subC (bodyC PP 43) []) (m_quant_floor_K K) a H = m_quant_floor K (a 0) (a 1) H :=
  by kernel_rfl
theorem m_quant_floor_ok (x0 x1 : AV) (H : AH) (K : AV → AH → Prop) (h : m_quant_floor K x0 x1 H) : CC.call 43 [x0, x1] H K :=
  have h1 : funP PP CC 43 [x0, x1] H K = codeP PP CC (subC (bodyC PP 43) []) (m_quant_floor_K K) (argE [x0, x1]) H := by kernel_rfl
  have h2 : m_quant_floor K (argE [x0, x1] 0) (argE [x0, x1] 1) H = m_quant_floor K x0 x1 H := by kernel_rfl
  funP_ok (P := PP) (by kernel_rfl) (by kernel_rfl) ((h1.trans ((m_quant_floor_eq K (argE [x0, x1]) H).trans h2)).mpr h)

/-! 63: slices.ContainsFunc[[]int32,int32] -/
abbrev m_slices_ContainsFunc_int32_int32_K (K : AV → AH → Prop) : KP := finP PP (resC PP 63) K
def m_slices_ContainsFunc_int32_int32 (K : AV → AH → Prop) (x0 x1 : AV) (H : AH) : Prop :=
  outP CC H (some (.enter 85 [x0, x1])) fun v1 H1 =>
  outP CC H1 (w_int .geq H1 v1 (.int .i64 0)) fun v2 H2 =>
  K v2 H2
theorem m_slices_ContainsFunc_int32_int32_eq (K : AV → AH → Prop) (a : TE) (H : AH) : codeP PP CC (subC (bodyC PP 63) []) (m_slices_ContainsFunc_int32_int32_K K) a H = m_slices_ContainsFunc_int32_int32 K (a 0) (a 1) H :=
  by kernel_rfl
theorem m_slices_ContainsFunc_int32_int32_ok (x0 x1 : AV) (H : AH) (K : AV → AH → Prop) (h : m_slices_ContainsFunc_int32_int32 K x0 x1 H) : CC.call 63 [x0, x1] H K :=
  have h1 : funP PP CC 63 [x0, x1] H K = codeP PP CC (subC (bodyC PP 63) []) (m_slices_ContainsFunc_int32_int32_K K) (argE [x0, x1]) H := by kernel_rfl
  have h2 : m_slices_ContainsFunc_int32_int32 K (argE [x0, x1] 0) (argE [x0, x1] 1) H = m_slices_ContainsFunc_int32_int32 K x0 x1 H := by kernel_rfl
  funP_ok (P := PP) (by kernel_rfl) (by kernel_rfl) ((h1.trans ((m_slices_ContainsFunc_int32_int32_eq K (argE [x0, x1]) H).trans h2)).mpr h)

/-! 64: fieldfare/quant.right$1 -/
abbrev m_quant_right_1_K (K : AV → AH → Prop) : KP := finP PP (resC PP 64) K
def m_quant_right_1 (K : AV → AH → Prop) (x0 : AV) (H : AH) : Prop :=
  outP CC H (w_int .lss H x0 (.int .i32 1)) fun v1 H1 =>
  K v1 H1
theorem m_quant_right_1_eq (K : AV → AH → Prop) (a : TE) (H : AH) : codeP PP CC (subC (bodyC PP 64) []) (m_quant_right_1_K K) a H = m_quant_right_1 K (a 0) H :=
  by kernel_rfl
theorem m_quant_right_1_ok (x0 : AV) (H : AH) (K : AV → AH → Prop) (h : m_quant_right_1 K x0 H) : CC.call 64 [x0] H K :=
  have h1 : funP PP CC 64 [x0] H K = codeP PP CC (subC (bodyC PP 64) []) (m_quant_right_1_K K) (argE [x0]) H := by kernel_rfl
  have h2 : m_quant_right_1 K (argE [x0] 0) H = m_quant_right_1 K x0 H := by kernel_rfl
  funP_ok (P := PP) (by kernel_rfl) (by kernel_rfl) ((h1.trans ((m_quant_right_1_eq K (argE [x0]) H).trans h2)).mpr h)

/-! 85: slices.IndexFunc[[]int32,int32] -/
abbrev m_slices_IndexFunc_int32_int32_K (K : AV → AH → Prop) : KP := finP PP (resC PP 85) K
abbrev m_slices_IndexFunc_int32_int32t_k (K : AV → AH → Prop) : KP := exP (codeP PP CC (subC (bodyC PP 85) [1, 1]) (m_slices_IndexFunc_int32_int32_K K)) (m_slices_IndexFunc_int32_int32_K K)
abbrev m_slices_IndexFunc_int32_int32tht_k (K : AV → AH → Prop) : KP := blockP 0 (m_slices_IndexFunc_int32_int32t_k K)
abbrev m_slices_IndexFunc_int32_int32thtb_k (K : AV → AH → Prop) (r0 : (AV × AV × AV × AV) → AH → Prop) : KP := exP (fun (a : TE) (H : AH) => r0 (a 0, a 1, a 7, a 8) H) (m_slices_IndexFunc_int32_int32tht_k K)
def m_slices_IndexFunc_int32_int32thtbl (K : AV → AH → Prop) (r0 : (AV × AV × AV × AV) → AH → Prop) (x0 x1 x7 x8 : AV) (H : AH) : Prop :=
  outP CC H (w_int .lss H x8 x7) fun v1 H1 =>
  condP v1
  (outP CC H1 (w_indexAddr (.sl 1) H1 x0 x8) fun v2 H2 =>
  outP CC H2 (w_load none H2 v2) fun v3 H3 =>
  outP CC H3 (callV [v3] x1) fun v4 H4 =>
  condP v4
  (K x8 H4)
  (outP CC H4 (w_int .add H4 x8 (.int .i64 1)) fun v5 H5 =>
  r0 (x0, x1, x7, v5) H5))
  (K (.int .i64 (-1)) H1)
theorem m_slices_IndexFunc_int32_int32thtbl_eq (K : AV → AH → Prop) (r0 : (AV × AV × AV × AV) → AH → Prop) (a : TE) (H : AH) : codeP PP CC (subC (bodyC PP 85) [1, 0, 1, 0, 0]) (m_slices_IndexFunc_int32_int32thtb_k K r0) a H = m_slices_IndexFunc_int32_int32thtbl K r0 (a 0) (a 1) (a 7) (a 8) H :=
  by kernel_rfl
def m_slices_IndexFunc_int32_int32thtb (K : AV → AH → Prop) (x0 x1 x7 x8 : AV) (H : AH) : Prop :=
  loopP (fun (r0 : (AV × AV × AV × AV) → AH → Prop) (s : (AV × AV × AV × AV)) (H : AH) => m_slices_IndexFunc_int32_int32thtbl K r0 s.1 s.2.1 s.2.2.1 s.2.2.2 H) (x0, x1, x7, x8) H
theorem m_slices_IndexFunc_int32_int32thtb_eq (K : AV → AH → Prop) (a : TE) (H : AH) : codeP PP CC (subC (bodyC PP 85) [1, 0, 1, 0]) (m_slices_IndexFunc_int32_int32tht_k K) a H = m_slices_IndexFunc_int32_int32thtb K (a 0) (a 1) (a 7) (a 8) H :=
  have h1 : codeP PP CC (subC (bodyC PP 85) [1, 0, 1, 0]) (m_slices_IndexFunc_int32_int32tht_k K) a H = loopP (fun (rec : KE) => codeP PP CC (subC (bodyC PP 85) [1, 0, 1, 0, 0]) (exP rec (m_slices_IndexFunc_int32_int32tht_k K))) a H := by kernel_rfl
  have h2 := loopP_iso (F := fun (rec : KE) => codeP PP CC (subC (bodyC PP 85) [1, 0, 1, 0, 0]) (exP rec (m_slices_IndexFunc_int32_int32tht_k K))) (S := (AV × AV × AV × AV)) (fun a => (a 0, a 1, a 7, a 8)) (fun (r0 : (AV × AV × AV × AV) → AH → Prop) (s : (AV × AV × AV × AV)) (H : AH) => m_slices_IndexFunc_int32_int32thtbl K r0 s.1 s.2.1 s.2.2.1 s.2.2.2 H) (fun (r0 : (AV × AV × AV × AV) → AH → Prop) (a : TE) (H : AH) => (show codeP PP CC (subC (bodyC PP 85) [1, 0, 1, 0, 0]) (exP (fun (a : TE) (H : AH) => r0 (a 0, a 1, a 7, a 8) H) (m_slices_IndexFunc_int32_int32tht_k K)) a H = codeP PP CC (subC (bodyC PP 85) [1, 0, 1, 0, 0]) (m_slices_IndexFunc_int32_int32thtb_k K r0) a H from by kernel_rfl).trans (m_slices_IndexFunc_int32_int32thtbl_eq K r0 a H)) a H
  h1.trans h2
theorem m_slices_IndexFunc_int32_int32tht_eq (K : AV → AH → Prop) (a : TE) (H : AH) : codeP PP CC (subC (bodyC PP 85) [1, 0, 1]) (m_slices_IndexFunc_int32_int32t_k K) a H = m_slices_IndexFunc_int32_int32thtb K (a 0) (a 1) (a 7) (a 8) H :=
  have h1 : codeP PP CC (subC (bodyC PP 85) [1, 0, 1]) (m_slices_IndexFunc_int32_int32t_k K) a H = codeP PP CC (subC (bodyC PP 85) [1, 0, 1, 0]) (m_slices_IndexFunc_int32_int32tht_k K) a H := by kernel_rfl
  h1.trans (m_slices_IndexFunc_int32_int32thtb_eq K a H)
abbrev m_slices_IndexFunc_int32_int32th_k (K : AV → AH → Prop) : KP := exP (fun (a : TE) (H : AH) => m_slices_IndexFunc_int32_int32thtb K (a 0) (a 1) (a 7) (a 8) H) (m_slices_IndexFunc_int32_int32t_k K)
def m_slices_IndexFunc_int32_int32th (K : AV → AH → Prop) (x0 x1 : AV) (H : AH) : Prop :=
  outP CC H (w_len PP 48 H x0) fun v1 H1 =>
  m_slices_IndexFunc_int32_int32thtb K x0 x1 v1 (.int .i64 0) H1
theorem m_slices_IndexFunc_int32_int32th_eq (K : AV → AH → Prop) (a : TE) (H : AH) : codeP PP CC (subC (bodyC PP 85) [1, 0]) (m_slices_IndexFunc_int32_int32t_k K) a H = m_slices_IndexFunc_int32_int32th K (a 0) (a 1) H :=
  have h1 : codeP PP CC (subC (bodyC PP 85) [1, 0]) (m_slices_IndexFunc_int32_int32t_k K) a H = codeP PP CC (subC (bodyC PP 85) [1, 0, 0]) (exP (codeP PP CC (subC (bodyC PP 85) [1, 0, 1]) (m_slices_IndexFunc_int32_int32t_k K)) (m_slices_IndexFunc_int32_int32t_k K)) a H := by kernel_rfl
  have h2 : codeP PP CC (subC (bodyC PP 85) [1, 0, 0]) (exP (codeP PP CC (subC (bodyC PP 85) [1, 0, 1]) (m_slices_IndexFunc_int32_int32t_k K)) (m_slices_IndexFunc_int32_int32t_k K)) a H = codeP PP CC (subC (bodyC PP 85) [1, 0, 0]) (exP (fun (a : TE) (H : AH) => m_slices_IndexFunc_int32_int32thtb K (a 0) (a 1) (a 7) (a 8) H) (m_slices_IndexFunc_int32_int32t_k K)) a H := congrArg (fun k : KE => codeP PP CC (subC (bodyC PP 85) [1, 0, 0]) (exP k (m_slices_IndexFunc_int32_int32t_k K)) a H) (funext fun a => funext fun H => m_slices_IndexFunc_int32_int32tht_eq K a H)
  have h2b : codeP PP CC (subC (bodyC PP 85) [1, 0, 0]) (exP (fun (a : TE) (H : AH) => m_slices_IndexFunc_int32_int32thtb K (a 0) (a 1) (a 7) (a 8) H) (m_slices_IndexFunc_int32_int32t_k K)) a H = codeP PP CC (subC (bodyC PP 85) [1, 0, 0]) (m_slices_IndexFunc_int32_int32th_k K) a H := by kernel_rfl
  have h3 : codeP PP CC (subC (bodyC PP 85) [1, 0, 0]) (m_slices_IndexFunc_int32_int32th_k K) a H = m_slices_IndexFunc_int32_int32th K (a 0) (a 1) H := by kernel_rfl
  ((h1.trans h2).trans h2b).trans h3
theorem m_slices_IndexFunc_int32_int32t_eq (K : AV → AH → Prop) (a : TE) (H : AH) : codeP PP CC (subC (bodyC PP 85) [1]) (m_slices_IndexFunc_int32_int32_K K) a H = m_slices_IndexFunc_int32_int32th K (a 0) (a 1) H :=
  have h1 : codeP PP CC (subC (bodyC PP 85) [1]) (m_slices_IndexFunc_int32_int32_K K) a H = codeP PP CC (subC (bodyC PP 85) [1, 0]) (m_slices_IndexFunc_int32_int32t_k K) a H := by kernel_rfl
  h1.trans (m_slices_IndexFunc_int32_int32th_eq K a H)
abbrev m_slices_IndexFunc_int32_int32_k (K : AV → AH → Prop) : KP := exP (fun (a : TE) (H : AH) => m_slices_IndexFunc_int32_int32th K (a 0) (a 1) H) (m_slices_IndexFunc_int32_int32_K K)
def m_slices_IndexFunc_int32_int32 (K : AV → AH → Prop) (x0 x1 : AV) (H : AH) : Prop :=
  m_slices_IndexFunc_int32_int32th K x0 x1 H
theorem m_slices_IndexFunc_int32_int32_eq (K : AV → AH → Prop) (a : TE) (H : AH) : codeP PP CC (subC (bodyC PP 85) []) (m_slices_IndexFunc_int32_int32_K K) a H = m_slices_IndexFunc_int32_int32 K (a 0) (a 1) H :=
  have h1 : codeP PP CC (subC (bodyC PP 85) []) (m_slices_IndexFunc_int32_int32_K K) a H = codeP PP CC (subC (bodyC PP 85) [0]) (exP (codeP PP CC (subC (bodyC PP 85) [1]) (m_slices_IndexFunc_int32_int32_K K)) (m_slices_IndexFunc_int32_int32_K K)) a H := by kernel_rfl
  have h2 : codeP PP CC (subC (bodyC PP 85) [0]) (exP (codeP PP CC (subC (bodyC PP 85) [1]) (m_slices_IndexFunc_int32_int32_K K)) (m_slices_IndexFunc_int32_int32_K K)) a H = codeP PP CC (subC (bodyC PP 85) [0]) (exP (fun (a : TE) (H : AH) => m_slices_IndexFunc_int32_int32th K (a 0) (a 1) H) (m_slices_IndexFunc_int32_int32_K K)) a H := congrArg (fun k : KE => codeP PP CC (subC (bodyC PP 85) [0]) (exP k (m_slices_IndexFunc_int32_int32_K K)) a H) (funext fun a => funext fun H => m_slices_IndexFunc_int32_int32t_eq K a H)
  have h2b : codeP PP CC (subC (bodyC PP 85) [0]) (exP (fun (a : TE) (H : AH) => m_slices_IndexFunc_int32_int32th K (a 0) (a 1) H) (m_slices_IndexFunc_int32_int32_K K)) a H = codeP PP CC (subC (bodyC PP 85) [0]) (m_slices_IndexFunc_int32_int32_k K) a H := by kernel_rfl
  have h3 : codeP PP CC (subC (bodyC PP 85) [0]) (m_slices_IndexFunc_int32_int32_k K) a H = m_slices_IndexFunc_int32_int32 K (a 0) (a 1) H := by kernel_rfl
  ((h1.trans h2).trans h2b).trans h3
theorem m_slices_IndexFunc_int32_int32_ok (x0 x1 : AV) (H : AH) (K : AV → AH → Prop) (h : m_slices_IndexFunc_int32_int32 K x0 x1 H) : CC.call 85 [x0, x1] H K :=
  have h1 : funP PP CC 85 [x0, x1] H K = codeP PP CC (subC (bodyC PP 85) []) (m_slices_IndexFunc_int32_int32_K K) (argE [x0, x1]) H := by kernel_rfl
  have h2 : m_slices_IndexFunc_int32_int32 K (argE [x0, x1] 0) (argE [x0, x1] 1) H = m_slices_IndexFunc_int32_int32 K x0 x1 H := by kernel_rfl
  funP_ok (P := PP) (by kernel_rfl) (by kernel_rfl) ((h1.trans ((m_slices_IndexFunc_int32_int32_eq K (argE [x0, x1]) H).trans h2)).mpr h)

end
end Go.Ab
