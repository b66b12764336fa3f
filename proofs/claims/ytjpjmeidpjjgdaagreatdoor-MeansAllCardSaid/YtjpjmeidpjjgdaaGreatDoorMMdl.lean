/- What functions do, said as what the evaluator does. Printed by a program. -/
import Derived.Test.YtjpjmeidpjjgdaaGreatDoorBeg
import Derived.Test.YtjpjmeidpjjgdaaGreatDoorEv3
namespace Go.Ab
noncomputable section
open Go.Proofs
set_option maxRecDepth 100000



/-! 49: fieldfare/means.middle -/
abbrev m_means_middle_K (K : AV → AH → Prop) : KP := finP PP (resC PP 49) K
abbrev m_means_middlettt_k (K : AV → AH → Prop) : KP := exP (codeP PP CC (subC (bodyC PP 49) [1, 1, 1, 1]) (m_means_middle_K K)) (m_means_middle_K K)
abbrev m_means_middletttht_k (K : AV → AH → Prop) : KP := blockP 0 (m_means_middlettt_k K)
abbrev m_means_middlettthtb_k (K : AV → AH → Prop) (r0 : (AV × AV × AV × AV) → AH → Prop) : KP := exP (fun (a : TE) (H : AH) => r0 (a 1, a 5, a 18, a 19) H) (m_means_middletttht_k K)
abbrev m_means_middlettthtbltt_k (K : AV → AH → Prop) (r0 : (AV × AV × AV × AV) → AH → Prop) : KP := exP (codeP PP CC (subC (bodyC PP 49) [1, 1, 1, 0, 1, 0, 0, 1, 1, 1]) (m_means_middlettthtb_k K r0)) (m_means_middlettthtb_k K r0)
abbrev m_means_middlettthtbltth_k (K : AV → AH → Prop) (r0 : (AV × AV × AV × AV) → AH → Prop) : KP := blockP 1 (m_means_middlettthtbltt_k K r0)
abbrev m_means_middlettthtbltthbtt_k (K : AV → AH → Prop) (r0 : (AV × AV × AV × AV) → AH → Prop) : KP := exP (codeP PP CC (subC (bodyC PP 49) [1, 1, 1, 0, 1, 0, 0, 1, 1, 0, 0, 1, 1, 1]) (m_means_middlettthtbltth_k K r0)) (m_means_middlettthtbltth_k K r0)
abbrev m_means_middlettthtbltthbttht_k (K : AV → AH → Prop) (r0 : (AV × AV × AV × AV) → AH → Prop) : KP := blockP 2 (m_means_middlettthtbltthbtt_k K r0)
abbrev m_means_middlettthtbltthbtthtb_k (K : AV → AH → Prop) (r0 : (AV × AV × AV × AV) → AH → Prop) (r1 : (AV × AV × AV × AV × AV × AV × AV × AV × AV) → AH → Prop) : KP := exP (fun (a : TE) (H : AH) => r1 (a 1, a 5, a 6, a 7, a 18, a 19, a 22, a 23, a 24) H) (m_means_middlettthtbltthbttht_k K r0)
def m_means_middlettthtbltthbtthtbl (_K : AV → AH → Prop) (r0 : (AV × AV × AV × AV) → AH → Prop) (r1 : (AV × AV × AV × AV × AV × AV × AV × AV × AV) → AH → Prop) (x1 x5 x6 x7 x18 x19 x22 x23 x24 : AV) (H : AH) : Prop :=
  outP CC H (w_int .lss H x24 x23) fun v1 H1 =>
  condP v1
  (outP CC H1 (w_indexAddr (.sl 1) H1 x22 x24) fun v2 H2 =>
  outP CC H2 (w_load none H2 v2) fun v3 H3 =>
  outP CC H3 (w_len PP 38 H3 v3) fun v4 H4 =>
  outP CC H4 (w_int .lss H4 x6 v4) fun v5 H5 =>
  condP v5
  (outP CC H5 (w_indexAddr (.sl 1) H5 v3 x6) fun v6 H6 =>
  outP CC H6 (w_load none H6 v6) fun v7 H7 =>
  outP CC H7 (w_conv (.int .i64) H7 v7 none) fun v8 H8 =>
  outP CC H8 (w_int .add H8 x7 v8) fun v9 H9 =>
  outP CC H9 (w_int .add H9 x24 (.int .i64 1)) fun v10 H10 =>
  r1 (x1, x5, x6, v9, x18, x19, x22, x23, v10) H10)
  (outP CC H5 (w_int .add H5 x24 (.int .i64 1)) fun v11 H11 =>
  r1 (x1, x5, x6, x7, x18, x19, x22, x23, v11) H11))
  (outP CC H1 (w_len PP 36 H1 x1) fun v12 H12 =>
  outP CC H12 (some (.enter 82 [x7, v12])) fun v13 H13 =>
  outP CC H13 (w_conv (.int .i32) H13 v13 none) fun v14 H14 =>
  outP CC H14 (w_indexAddr (.sl 1) H14 x5 x6) fun v15 H15 =>
  outP CC H15 (w_store 1 H15 v15 v14) fun _v16 H16 =>
  outP CC H16 (w_int .add H16 x19 (.int .i64 1)) fun v17 H17 =>
  r0 (x1, x5, x18, v17) H17)
theorem m_means_middlettthtbltthbtthtbl_eq (K : AV → AH → Prop) (r0 : (AV × AV × AV × AV) → AH → Prop) (r1 : (AV × AV × AV × AV × AV × AV × AV × AV × AV) → AH → Prop) (a : TE) (H : AH) : codeP PP CC (subC (bodyC PP 49) [1, 1, 1, 0, 1, 0, 0, 1, 1, 0, 0, 1, 1, 0, 1, 0, 0]) (m_means_middlettthtbltthbtthtb_k K r0 r1) a H = m_means_middlettthtbltthbtthtbl K r0 r1 (a 1) (a 5) (a 6) (a 7) (a 18) (a 19) (a 22) (a 23) (a 24) H :=
  by kernel_rfl
def m_means_middlettthtbltthbtthtb (K : AV → AH → Prop) (r0 : (AV × AV × AV × AV) → AH → Prop) (x1 x5 x6 x7 x18 x19 x22 x23 x24 : AV) (H : AH) : Prop :=
  loopP (fun (r1 : (AV × AV × AV × AV × AV × AV × AV × AV × AV) → AH → Prop) (s : (AV × AV × AV × AV × AV × AV × AV × AV × AV)) (H : AH) => m_means_middlettthtbltthbtthtbl K r0 r1 s.1 s.2.1 s.2.2.1 s.2.2.2.1 s.2.2.2.2.1 s.2.2.2.2.2.1 s.2.2.2.2.2.2.1 s.2.2.2.2.2.2.2.1 s.2.2.2.2.2.2.2.2 H) (x1, x5, x6, x7, x18, x19, x22, x23, x24) H
theorem m_means_middlettthtbltthbtthtb_eq (K : AV → AH → Prop) (r0 : (AV × AV × AV × AV) → AH → Prop) (a : TE) (H : AH) : codeP PP CC (subC (bodyC PP 49) [1, 1, 1, 0, 1, 0, 0, 1, 1, 0, 0, 1, 1, 0, 1, 0]) (m_means_middlettthtbltthbttht_k K r0) a H = m_means_middlettthtbltthbtthtb K r0 (a 1) (a 5) (a 6) (a 7) (a 18) (a 19) (a 22) (a 23) (a 24) H :=
  have h1 : codeP PP CC (subC (bodyC PP 49) [1, 1, 1, 0, 1, 0, 0, 1, 1, 0, 0, 1, 1, 0, 1, 0]) (m_means_middlettthtbltthbttht_k K r0) a H = loopP (fun (rec : KE) => codeP PP CC (subC (bodyC PP 49) [1, 1, 1, 0, 1, 0, 0, 1, 1, 0, 0, 1, 1, 0, 1, 0, 0]) (exP rec (m_means_middlettthtbltthbttht_k K r0))) a H := by kernel_rfl
  have h2 := loopP_iso (F := fun (rec : KE) => codeP PP CC (subC (bodyC PP 49) [1, 1, 1, 0, 1, 0, 0, 1, 1, 0, 0, 1, 1, 0, 1, 0, 0]) (exP rec (m_means_middlettthtbltthbttht_k K r0))) (S := (AV × AV × AV × AV × AV × AV × AV × AV × AV)) (fun a => (a 1, a 5, a 6, a 7, a 18, a 19, a 22, a 23, a 24)) (fun (r1 : (AV × AV × AV × AV × AV × AV × AV × AV × AV) → AH → Prop) (s : (AV × AV × AV × AV × AV × AV × AV × AV × AV)) (H : AH) => m_means_middlettthtbltthbtthtbl K r0 r1 s.1 s.2.1 s.2.2.1 s.2.2.2.1 s.2.2.2.2.1 s.2.2.2.2.2.1 s.2.2.2.2.2.2.1 s.2.2.2.2.2.2.2.1 s.2.2.2.2.2.2.2.2 H) (fun (r1 : (AV × AV × AV × AV × AV × AV × AV × AV × AV) → AH → Prop) (a : TE) (H : AH) => (show codeP PP CC (subC (bodyC PP 49) [1, 1, 1, 0, 1, 0, 0, 1, 1, 0, 0, 1, 1, 0, 1, 0, 0]) (exP (fun (a : TE) (H : AH) => r1 (a 1, a 5, a 6, a 7, a 18, a 19, a 22, a 23, a 24) H) (m_means_middlettthtbltthbttht_k K r0)) a H = codeP PP CC (subC (bodyC PP 49) [1, 1, 1, 0, 1, 0, 0, 1, 1, 0, 0, 1, 1, 0, 1, 0, 0]) (m_means_middlettthtbltthbtthtb_k K r0 r1) a H from by kernel_rfl).trans (m_means_middlettthtbltthbtthtbl_eq K r0 r1 a H)) a H
  h1.trans h2
theorem m_means_middlettthtbltthbttht_eq (K : AV → AH → Prop) (r0 : (AV × AV × AV × AV) → AH → Prop) (a : TE) (H : AH) : codeP PP CC (subC (bodyC PP 49) [1, 1, 1, 0, 1, 0, 0, 1, 1, 0, 0, 1, 1, 0, 1]) (m_means_middlettthtbltthbtt_k K r0) a H = m_means_middlettthtbltthbtthtb K r0 (a 1) (a 5) (a 6) (a 7) (a 18) (a 19) (a 22) (a 23) (a 24) H :=
  have h1 : codeP PP CC (subC (bodyC PP 49) [1, 1, 1, 0, 1, 0, 0, 1, 1, 0, 0, 1, 1, 0, 1]) (m_means_middlettthtbltthbtt_k K r0) a H = codeP PP CC (subC (bodyC PP 49) [1, 1, 1, 0, 1, 0, 0, 1, 1, 0, 0, 1, 1, 0, 1, 0]) (m_means_middlettthtbltthbttht_k K r0) a H := by kernel_rfl
  h1.trans (m_means_middlettthtbltthbtthtb_eq K r0 a H)
abbrev m_means_middlettthtbltthbtth_k (K : AV → AH → Prop) (r0 : (AV × AV × AV × AV) → AH → Prop) : KP := exP (fun (a : TE) (H : AH) => m_means_middlettthtbltthbtthtb K r0 (a 1) (a 5) (a 6) (a 7) (a 18) (a 19) (a 22) (a 23) (a 24) H) (m_means_middlettthtbltthbtt_k K r0)
def m_means_middlettthtbltthbtth (K : AV → AH → Prop) (r0 : (AV × AV × AV × AV) → AH → Prop) (x1 x5 x6 x7 x18 x19 : AV) (H : AH) : Prop :=
  outP CC H (w_len PP 36 H x1) fun v1 H1 =>
  m_means_middlettthtbltthbtthtb K r0 x1 x5 x6 x7 x18 x19 x1 v1 (.int .i64 0) H1
theorem m_means_middlettthtbltthbtth_eq (K : AV → AH → Prop) (r0 : (AV × AV × AV × AV) → AH → Prop) (a : TE) (H : AH) : codeP PP CC (subC (bodyC PP 49) [1, 1, 1, 0, 1, 0, 0, 1, 1, 0, 0, 1, 1, 0]) (m_means_middlettthtbltthbtt_k K r0) a H = m_means_middlettthtbltthbtth K r0 (a 1) (a 5) (a 6) (a 7) (a 18) (a 19) H :=
  have h1 : codeP PP CC (subC (bodyC PP 49) [1, 1, 1, 0, 1, 0, 0, 1, 1, 0, 0, 1, 1, 0]) (m_means_middlettthtbltthbtt_k K r0) a H = codeP PP CC (subC (bodyC PP 49) [1, 1, 1, 0, 1, 0, 0, 1, 1, 0, 0, 1, 1, 0, 0]) (exP (codeP PP CC (subC (bodyC PP 49) [1, 1, 1, 0, 1, 0, 0, 1, 1, 0, 0, 1, 1, 0, 1]) (m_means_middlettthtbltthbtt_k K r0)) (m_means_middlettthtbltthbtt_k K r0)) a H := by kernel_rfl
  have h2 : codeP PP CC (subC (bodyC PP 49) [1, 1, 1, 0, 1, 0, 0, 1, 1, 0, 0, 1, 1, 0, 0]) (exP (codeP PP CC (subC (bodyC PP 49) [1, 1, 1, 0, 1, 0, 0, 1, 1, 0, 0, 1, 1, 0, 1]) (m_means_middlettthtbltthbtt_k K r0)) (m_means_middlettthtbltthbtt_k K r0)) a H = codeP PP CC (subC (bodyC PP 49) [1, 1, 1, 0, 1, 0, 0, 1, 1, 0, 0, 1, 1, 0, 0]) (exP (fun (a : TE) (H : AH) => m_means_middlettthtbltthbtthtb K r0 (a 1) (a 5) (a 6) (a 7) (a 18) (a 19) (a 22) (a 23) (a 24) H) (m_means_middlettthtbltthbtt_k K r0)) a H := congrArg (fun k : KE => codeP PP CC (subC (bodyC PP 49) [1, 1, 1, 0, 1, 0, 0, 1, 1, 0, 0, 1, 1, 0, 0]) (exP k (m_means_middlettthtbltthbtt_k K r0)) a H) (funext fun a => funext fun H => m_means_middlettthtbltthbttht_eq K r0 a H)
  have h2b : codeP PP CC (subC (bodyC PP 49) [1, 1, 1, 0, 1, 0, 0, 1, 1, 0, 0, 1, 1, 0, 0]) (exP (fun (a : TE) (H : AH) => m_means_middlettthtbltthbtthtb K r0 (a 1) (a 5) (a 6) (a 7) (a 18) (a 19) (a 22) (a 23) (a 24) H) (m_means_middlettthtbltthbtt_k K r0)) a H = codeP PP CC (subC (bodyC PP 49) [1, 1, 1, 0, 1, 0, 0, 1, 1, 0, 0, 1, 1, 0, 0]) (m_means_middlettthtbltthbtth_k K r0) a H := by kernel_rfl
  have h3 : codeP PP CC (subC (bodyC PP 49) [1, 1, 1, 0, 1, 0, 0, 1, 1, 0, 0, 1, 1, 0, 0]) (m_means_middlettthtbltthbtth_k K r0) a H = m_means_middlettthtbltthbtth K r0 (a 1) (a 5) (a 6) (a 7) (a 18) (a 19) H := by kernel_rfl
  ((h1.trans h2).trans h2b).trans h3
theorem m_means_middlettthtbltthbtt_eq (K : AV → AH → Prop) (r0 : (AV × AV × AV × AV) → AH → Prop) (a : TE) (H : AH) : codeP PP CC (subC (bodyC PP 49) [1, 1, 1, 0, 1, 0, 0, 1, 1, 0, 0, 1, 1]) (m_means_middlettthtbltth_k K r0) a H = m_means_middlettthtbltthbtth K r0 (a 1) (a 5) (a 6) (a 7) (a 18) (a 19) H :=
  have h1 : codeP PP CC (subC (bodyC PP 49) [1, 1, 1, 0, 1, 0, 0, 1, 1, 0, 0, 1, 1]) (m_means_middlettthtbltth_k K r0) a H = codeP PP CC (subC (bodyC PP 49) [1, 1, 1, 0, 1, 0, 0, 1, 1, 0, 0, 1, 1, 0]) (m_means_middlettthtbltthbtt_k K r0) a H := by kernel_rfl
  h1.trans (m_means_middlettthtbltthbtth_eq K r0 a H)
abbrev m_means_middlettthtbltthbt_k (K : AV → AH → Prop) (r0 : (AV × AV × AV × AV) → AH → Prop) : KP := exP (fun (a : TE) (H : AH) => m_means_middlettthtbltthbtth K r0 (a 1) (a 5) (a 6) (a 7) (a 18) (a 19) H) (m_means_middlettthtbltth_k K r0)
def m_means_middlettthtbltthbt (K : AV → AH → Prop) (r0 : (AV × AV × AV × AV) → AH → Prop) (x1 x5 x6 x18 x19 : AV) (H : AH) : Prop :=
  m_means_middlettthtbltthbtth K r0 x1 x5 x6 (.int .i64 0) x18 x19 H
theorem m_means_middlettthtbltthbt_eq (K : AV → AH → Prop) (r0 : (AV × AV × AV × AV) → AH → Prop) (a : TE) (H : AH) : codeP PP CC (subC (bodyC PP 49) [1, 1, 1, 0, 1, 0, 0, 1, 1, 0, 0, 1]) (m_means_middlettthtbltth_k K r0) a H = m_means_middlettthtbltthbt K r0 (a 1) (a 5) (a 6) (a 18) (a 19) H :=
  have h1 : codeP PP CC (subC (bodyC PP 49) [1, 1, 1, 0, 1, 0, 0, 1, 1, 0, 0, 1]) (m_means_middlettthtbltth_k K r0) a H = codeP PP CC (subC (bodyC PP 49) [1, 1, 1, 0, 1, 0, 0, 1, 1, 0, 0, 1, 0]) (exP (codeP PP CC (subC (bodyC PP 49) [1, 1, 1, 0, 1, 0, 0, 1, 1, 0, 0, 1, 1]) (m_means_middlettthtbltth_k K r0)) (m_means_middlettthtbltth_k K r0)) a H := by kernel_rfl
  have h2 : codeP PP CC (subC (bodyC PP 49) [1, 1, 1, 0, 1, 0, 0, 1, 1, 0, 0, 1, 0]) (exP (codeP PP CC (subC (bodyC PP 49) [1, 1, 1, 0, 1, 0, 0, 1, 1, 0, 0, 1, 1]) (m_means_middlettthtbltth_k K r0)) (m_means_middlettthtbltth_k K r0)) a H = codeP PP CC (subC (bodyC PP 49) [1, 1, 1, 0, 1, 0, 0, 1, 1, 0, 0, 1, 0]) (exP (fun (a : TE) (H : AH) => m_means_middlettthtbltthbtth K r0 (a 1) (a 5) (a 6) (a 7) (a 18) (a 19) H) (m_means_middlettthtbltth_k K r0)) a H := congrArg (fun k : KE => codeP PP CC (subC (bodyC PP 49) [1, 1, 1, 0, 1, 0, 0, 1, 1, 0, 0, 1, 0]) (exP k (m_means_middlettthtbltth_k K r0)) a H) (funext fun a => funext fun H => m_means_middlettthtbltthbtt_eq K r0 a H)
  have h2b : codeP PP CC (subC (bodyC PP 49) [1, 1, 1, 0, 1, 0, 0, 1, 1, 0, 0, 1, 0]) (exP (fun (a : TE) (H : AH) => m_means_middlettthtbltthbtth K r0 (a 1) (a 5) (a 6) (a 7) (a 18) (a 19) H) (m_means_middlettthtbltth_k K r0)) a H = codeP PP CC (subC (bodyC PP 49) [1, 1, 1, 0, 1, 0, 0, 1, 1, 0, 0, 1, 0]) (m_means_middlettthtbltthbt_k K r0) a H := by kernel_rfl
  have h3 : codeP PP CC (subC (bodyC PP 49) [1, 1, 1, 0, 1, 0, 0, 1, 1, 0, 0, 1, 0]) (m_means_middlettthtbltthbt_k K r0) a H = m_means_middlettthtbltthbt K r0 (a 1) (a 5) (a 6) (a 18) (a 19) H := by kernel_rfl
  ((h1.trans h2).trans h2b).trans h3
abbrev m_means_middlettthtbltthb_k (K : AV → AH → Prop) (r0 : (AV × AV × AV × AV) → AH → Prop) : KP := exP (fun (a : TE) (H : AH) => m_means_middlettthtbltthbt K r0 (a 1) (a 5) (a 6) (a 18) (a 19) H) (m_means_middlettthtbltth_k K r0)
def m_means_middlettthtbltthb (K : AV → AH → Prop) (r0 : (AV × AV × AV × AV) → AH → Prop) (x1 x5 x18 x19 : AV) (H : AH) : Prop :=
  m_means_middlettthtbltthbt K r0 x1 x5 x19 x18 x19 H
theorem m_means_middlettthtbltthb_eq (K : AV → AH → Prop) (r0 : (AV × AV × AV × AV) → AH → Prop) (a : TE) (H : AH) : codeP PP CC (subC (bodyC PP 49) [1, 1, 1, 0, 1, 0, 0, 1, 1, 0, 0]) (m_means_middlettthtbltth_k K r0) a H = m_means_middlettthtbltthb K r0 (a 1) (a 5) (a 18) (a 19) H :=
  have h1 : codeP PP CC (subC (bodyC PP 49) [1, 1, 1, 0, 1, 0, 0, 1, 1, 0, 0]) (m_means_middlettthtbltth_k K r0) a H = codeP PP CC (subC (bodyC PP 49) [1, 1, 1, 0, 1, 0, 0, 1, 1, 0, 0, 0]) (exP (codeP PP CC (subC (bodyC PP 49) [1, 1, 1, 0, 1, 0, 0, 1, 1, 0, 0, 1]) (m_means_middlettthtbltth_k K r0)) (m_means_middlettthtbltth_k K r0)) a H := by kernel_rfl
  have h2 : codeP PP CC (subC (bodyC PP 49) [1, 1, 1, 0, 1, 0, 0, 1, 1, 0, 0, 0]) (exP (codeP PP CC (subC (bodyC PP 49) [1, 1, 1, 0, 1, 0, 0, 1, 1, 0, 0, 1]) (m_means_middlettthtbltth_k K r0)) (m_means_middlettthtbltth_k K r0)) a H = codeP PP CC (subC (bodyC PP 49) [1, 1, 1, 0, 1, 0, 0, 1, 1, 0, 0, 0]) (exP (fun (a : TE) (H : AH) => m_means_middlettthtbltthbt K r0 (a 1) (a 5) (a 6) (a 18) (a 19) H) (m_means_middlettthtbltth_k K r0)) a H := congrArg (fun k : KE => codeP PP CC (subC (bodyC PP 49) [1, 1, 1, 0, 1, 0, 0, 1, 1, 0, 0, 0]) (exP k (m_means_middlettthtbltth_k K r0)) a H) (funext fun a => funext fun H => m_means_middlettthtbltthbt_eq K r0 a H)
  have h2b : codeP PP CC (subC (bodyC PP 49) [1, 1, 1, 0, 1, 0, 0, 1, 1, 0, 0, 0]) (exP (fun (a : TE) (H : AH) => m_means_middlettthtbltthbt K r0 (a 1) (a 5) (a 6) (a 18) (a 19) H) (m_means_middlettthtbltth_k K r0)) a H = codeP PP CC (subC (bodyC PP 49) [1, 1, 1, 0, 1, 0, 0, 1, 1, 0, 0, 0]) (m_means_middlettthtbltthb_k K r0) a H := by kernel_rfl
  have h3 : codeP PP CC (subC (bodyC PP 49) [1, 1, 1, 0, 1, 0, 0, 1, 1, 0, 0, 0]) (m_means_middlettthtbltthb_k K r0) a H = m_means_middlettthtbltthb K r0 (a 1) (a 5) (a 18) (a 19) H := by kernel_rfl
  ((h1.trans h2).trans h2b).trans h3
theorem m_means_middlettthtbltth_eq (K : AV → AH → Prop) (r0 : (AV × AV × AV × AV) → AH → Prop) (a : TE) (H : AH) : codeP PP CC (subC (bodyC PP 49) [1, 1, 1, 0, 1, 0, 0, 1, 1, 0]) (m_means_middlettthtbltt_k K r0) a H = m_means_middlettthtbltthb K r0 (a 1) (a 5) (a 18) (a 19) H :=
  have h1 : codeP PP CC (subC (bodyC PP 49) [1, 1, 1, 0, 1, 0, 0, 1, 1, 0]) (m_means_middlettthtbltt_k K r0) a H = codeP PP CC (subC (bodyC PP 49) [1, 1, 1, 0, 1, 0, 0, 1, 1, 0, 0]) (m_means_middlettthtbltth_k K r0) a H := by kernel_rfl
  h1.trans (m_means_middlettthtbltthb_eq K r0 a H)
theorem m_means_middlettthtbltt_eq (K : AV → AH → Prop) (r0 : (AV × AV × AV × AV) → AH → Prop) (a : TE) (H : AH) : codeP PP CC (subC (bodyC PP 49) [1, 1, 1, 0, 1, 0, 0, 1, 1]) (m_means_middlettthtb_k K r0) a H = m_means_middlettthtbltthb K r0 (a 1) (a 5) (a 18) (a 19) H :=
  have h1 : codeP PP CC (subC (bodyC PP 49) [1, 1, 1, 0, 1, 0, 0, 1, 1]) (m_means_middlettthtb_k K r0) a H = codeP PP CC (subC (bodyC PP 49) [1, 1, 1, 0, 1, 0, 0, 1, 1, 0]) (m_means_middlettthtbltt_k K r0) a H := by kernel_rfl
  h1.trans (m_means_middlettthtbltth_eq K r0 a H)
abbrev m_means_middlettthtblt_k (K : AV → AH → Prop) (r0 : (AV × AV × AV × AV) → AH → Prop) : KP := exP (fun (a : TE) (H : AH) => m_means_middlettthtbltthb K r0 (a 1) (a 5) (a 18) (a 19) H) (m_means_middlettthtb_k K r0)
def m_means_middlettthtblt (K : AV → AH → Prop) (r0 : (AV × AV × AV × AV) → AH → Prop) (x1 x5 x18 x19 x20 : AV) (H : AH) : Prop :=
  condP x20
  (m_means_middlettthtbltthb K r0 x1 x5 x18 x19 H)
  (K x5 H)
theorem m_means_middlettthtblt_eq (K : AV → AH → Prop) (r0 : (AV × AV × AV × AV) → AH → Prop) (a : TE) (H : AH) : codeP PP CC (subC (bodyC PP 49) [1, 1, 1, 0, 1, 0, 0, 1]) (m_means_middlettthtb_k K r0) a H = m_means_middlettthtblt K r0 (a 1) (a 5) (a 18) (a 19) (a 20) H :=
  have h1 : codeP PP CC (subC (bodyC PP 49) [1, 1, 1, 0, 1, 0, 0, 1]) (m_means_middlettthtb_k K r0) a H = codeP PP CC (subC (bodyC PP 49) [1, 1, 1, 0, 1, 0, 0, 1, 0]) (exP (codeP PP CC (subC (bodyC PP 49) [1, 1, 1, 0, 1, 0, 0, 1, 1]) (m_means_middlettthtb_k K r0)) (m_means_middlettthtb_k K r0)) a H := by kernel_rfl
  have h2 : codeP PP CC (subC (bodyC PP 49) [1, 1, 1, 0, 1, 0, 0, 1, 0]) (exP (codeP PP CC (subC (bodyC PP 49) [1, 1, 1, 0, 1, 0, 0, 1, 1]) (m_means_middlettthtb_k K r0)) (m_means_middlettthtb_k K r0)) a H = codeP PP CC (subC (bodyC PP 49) [1, 1, 1, 0, 1, 0, 0, 1, 0]) (exP (fun (a : TE) (H : AH) => m_means_middlettthtbltthb K r0 (a 1) (a 5) (a 18) (a 19) H) (m_means_middlettthtb_k K r0)) a H := congrArg (fun k : KE => codeP PP CC (subC (bodyC PP 49) [1, 1, 1, 0, 1, 0, 0, 1, 0]) (exP k (m_means_middlettthtb_k K r0)) a H) (funext fun a => funext fun H => m_means_middlettthtbltt_eq K r0 a H)
  have h2b : codeP PP CC (subC (bodyC PP 49) [1, 1, 1, 0, 1, 0, 0, 1, 0]) (exP (fun (a : TE) (H : AH) => m_means_middlettthtbltthb K r0 (a 1) (a 5) (a 18) (a 19) H) (m_means_middlettthtb_k K r0)) a H = codeP PP CC (subC (bodyC PP 49) [1, 1, 1, 0, 1, 0, 0, 1, 0]) (m_means_middlettthtblt_k K r0) a H := by kernel_rfl
  have h3 : codeP PP CC (subC (bodyC PP 49) [1, 1, 1, 0, 1, 0, 0, 1, 0]) (m_means_middlettthtblt_k K r0) a H = m_means_middlettthtblt K r0 (a 1) (a 5) (a 18) (a 19) (a 20) H := by kernel_rfl
  ((h1.trans h2).trans h2b).trans h3
abbrev m_means_middlettthtbl_k (K : AV → AH → Prop) (r0 : (AV × AV × AV × AV) → AH → Prop) : KP := exP (fun (a : TE) (H : AH) => m_means_middlettthtblt K r0 (a 1) (a 5) (a 18) (a 19) (a 20) H) (m_means_middlettthtb_k K r0)
def m_means_middlettthtbl (K : AV → AH → Prop) (r0 : (AV × AV × AV × AV) → AH → Prop) (x1 x5 x18 x19 : AV) (H : AH) : Prop :=
  outP CC H (w_int .lss H x19 x18) fun v1 H1 =>
  m_means_middlettthtblt K r0 x1 x5 x18 x19 v1 H1
theorem m_means_middlettthtbl_eq (K : AV → AH → Prop) (r0 : (AV × AV × AV × AV) → AH → Prop) (a : TE) (H : AH) : codeP PP CC (subC (bodyC PP 49) [1, 1, 1, 0, 1, 0, 0]) (m_means_middlettthtb_k K r0) a H = m_means_middlettthtbl K r0 (a 1) (a 5) (a 18) (a 19) H :=
  have h1 : codeP PP CC (subC (bodyC PP 49) [1, 1, 1, 0, 1, 0, 0]) (m_means_middlettthtb_k K r0) a H = codeP PP CC (subC (bodyC PP 49) [1, 1, 1, 0, 1, 0, 0, 0]) (exP (codeP PP CC (subC (bodyC PP 49) [1, 1, 1, 0, 1, 0, 0, 1]) (m_means_middlettthtb_k K r0)) (m_means_middlettthtb_k K r0)) a H := by kernel_rfl
  have h2 : codeP PP CC (subC (bodyC PP 49) [1, 1, 1, 0, 1, 0, 0, 0]) (exP (codeP PP CC (subC (bodyC PP 49) [1, 1, 1, 0, 1, 0, 0, 1]) (m_means_middlettthtb_k K r0)) (m_means_middlettthtb_k K r0)) a H = codeP PP CC (subC (bodyC PP 49) [1, 1, 1, 0, 1, 0, 0, 0]) (exP (fun (a : TE) (H : AH) => m_means_middlettthtblt K r0 (a 1) (a 5) (a 18) (a 19) (a 20) H) (m_means_middlettthtb_k K r0)) a H := congrArg (fun k : KE => codeP PP CC (subC (bodyC PP 49) [1, 1, 1, 0, 1, 0, 0, 0]) (exP k (m_means_middlettthtb_k K r0)) a H) (funext fun a => funext fun H => m_means_middlettthtblt_eq K r0 a H)
  have h2b : codeP PP CC (subC (bodyC PP 49) [1, 1, 1, 0, 1, 0, 0, 0]) (exP (fun (a : TE) (H : AH) => m_means_middlettthtblt K r0 (a 1) (a 5) (a 18) (a 19) (a 20) H) (m_means_middlettthtb_k K r0)) a H = codeP PP CC (subC (bodyC PP 49) [1, 1, 1, 0, 1, 0, 0, 0]) (m_means_middlettthtbl_k K r0) a H := by kernel_rfl
  have h3 : codeP PP CC (subC (bodyC PP 49) [1, 1, 1, 0, 1, 0, 0, 0]) (m_means_middlettthtbl_k K r0) a H = m_means_middlettthtbl K r0 (a 1) (a 5) (a 18) (a 19) H := by kernel_rfl
  ((h1.trans h2).trans h2b).trans h3
def m_means_middlettthtb (K : AV → AH → Prop) (x1 x5 x18 x19 : AV) (H : AH) : Prop :=
  loopP (fun (r0 : (AV × AV × AV × AV) → AH → Prop) (s : (AV × AV × AV × AV)) (H : AH) => m_means_middlettthtbl K r0 s.1 s.2.1 s.2.2.1 s.2.2.2 H) (x1, x5, x18, x19) H
theorem m_means_middlettthtb_eq (K : AV → AH → Prop) (a : TE) (H : AH) : codeP PP CC (subC (bodyC PP 49) [1, 1, 1, 0, 1, 0]) (m_means_middletttht_k K) a H = m_means_middlettthtb K (a 1) (a 5) (a 18) (a 19) H :=
  have h1 : codeP PP CC (subC (bodyC PP 49) [1, 1, 1, 0, 1, 0]) (m_means_middletttht_k K) a H = loopP (fun (rec : KE) => codeP PP CC (subC (bodyC PP 49) [1, 1, 1, 0, 1, 0, 0]) (exP rec (m_means_middletttht_k K))) a H := by kernel_rfl
  have h2 := loopP_iso (F := fun (rec : KE) => codeP PP CC (subC (bodyC PP 49) [1, 1, 1, 0, 1, 0, 0]) (exP rec (m_means_middletttht_k K))) (S := (AV × AV × AV × AV)) (fun a => (a 1, a 5, a 18, a 19)) (fun (r0 : (AV × AV × AV × AV) → AH → Prop) (s : (AV × AV × AV × AV)) (H : AH) => m_means_middlettthtbl K r0 s.1 s.2.1 s.2.2.1 s.2.2.2 H) (fun (r0 : (AV × AV × AV × AV) → AH → Prop) (a : TE) (H : AH) => (show codeP PP CC (subC (bodyC PP 49) [1, 1, 1, 0, 1, 0, 0]) (exP (fun (a : TE) (H : AH) => r0 (a 1, a 5, a 18, a 19) H) (m_means_middletttht_k K)) a H = codeP PP CC (subC (bodyC PP 49) [1, 1, 1, 0, 1, 0, 0]) (m_means_middlettthtb_k K r0) a H from by kernel_rfl).trans (m_means_middlettthtbl_eq K r0 a H)) a H
  h1.trans h2
theorem m_means_middletttht_eq (K : AV → AH → Prop) (a : TE) (H : AH) : codeP PP CC (subC (bodyC PP 49) [1, 1, 1, 0, 1]) (m_means_middlettt_k K) a H = m_means_middlettthtb K (a 1) (a 5) (a 18) (a 19) H :=
  have h1 : codeP PP CC (subC (bodyC PP 49) [1, 1, 1, 0, 1]) (m_means_middlettt_k K) a H = codeP PP CC (subC (bodyC PP 49) [1, 1, 1, 0, 1, 0]) (m_means_middletttht_k K) a H := by kernel_rfl
  h1.trans (m_means_middlettthtb_eq K a H)
abbrev m_means_middlettth_k (K : AV → AH → Prop) : KP := exP (fun (a : TE) (H : AH) => m_means_middlettthtb K (a 1) (a 5) (a 18) (a 19) H) (m_means_middlettt_k K)
def m_means_middlettth (K : AV → AH → Prop) (x1 x5 : AV) (H : AH) : Prop :=
  outP CC H (w_len PP 38 H x5) fun v1 H1 =>
  m_means_middlettthtb K x1 x5 v1 (.int .i64 0) H1
theorem m_means_middlettth_eq (K : AV → AH → Prop) (a : TE) (H : AH) : codeP PP CC (subC (bodyC PP 49) [1, 1, 1, 0]) (m_means_middlettt_k K) a H = m_means_middlettth K (a 1) (a 5) H :=
  have h1 : codeP PP CC (subC (bodyC PP 49) [1, 1, 1, 0]) (m_means_middlettt_k K) a H = codeP PP CC (subC (bodyC PP 49) [1, 1, 1, 0, 0]) (exP (codeP PP CC (subC (bodyC PP 49) [1, 1, 1, 0, 1]) (m_means_middlettt_k K)) (m_means_middlettt_k K)) a H := by kernel_rfl
  have h2 : codeP PP CC (subC (bodyC PP 49) [1, 1, 1, 0, 0]) (exP (codeP PP CC (subC (bodyC PP 49) [1, 1, 1, 0, 1]) (m_means_middlettt_k K)) (m_means_middlettt_k K)) a H = codeP PP CC (subC (bodyC PP 49) [1, 1, 1, 0, 0]) (exP (fun (a : TE) (H : AH) => m_means_middlettthtb K (a 1) (a 5) (a 18) (a 19) H) (m_means_middlettt_k K)) a H := congrArg (fun k : KE => codeP PP CC (subC (bodyC PP 49) [1, 1, 1, 0, 0]) (exP k (m_means_middlettt_k K)) a H) (funext fun a => funext fun H => m_means_middletttht_eq K a H)
  have h2b : codeP PP CC (subC (bodyC PP 49) [1, 1, 1, 0, 0]) (exP (fun (a : TE) (H : AH) => m_means_middlettthtb K (a 1) (a 5) (a 18) (a 19) H) (m_means_middlettt_k K)) a H = codeP PP CC (subC (bodyC PP 49) [1, 1, 1, 0, 0]) (m_means_middlettth_k K) a H := by kernel_rfl
  have h3 : codeP PP CC (subC (bodyC PP 49) [1, 1, 1, 0, 0]) (m_means_middlettth_k K) a H = m_means_middlettth K (a 1) (a 5) H := by kernel_rfl
  ((h1.trans h2).trans h2b).trans h3
theorem m_means_middlettt_eq (K : AV → AH → Prop) (a : TE) (H : AH) : codeP PP CC (subC (bodyC PP 49) [1, 1, 1]) (m_means_middle_K K) a H = m_means_middlettth K (a 1) (a 5) H :=
  have h1 : codeP PP CC (subC (bodyC PP 49) [1, 1, 1]) (m_means_middle_K K) a H = codeP PP CC (subC (bodyC PP 49) [1, 1, 1, 0]) (m_means_middlettt_k K) a H := by kernel_rfl
  h1.trans (m_means_middlettth_eq K a H)
abbrev m_means_middlett_k (K : AV → AH → Prop) : KP := exP (fun (a : TE) (H : AH) => m_means_middlettth K (a 1) (a 5) H) (m_means_middle_K K)
def m_means_middlett (K : AV → AH → Prop) (x0 x1 : AV) (H : AH) : Prop :=
  outP CC H (w_len PP 38 H x0) fun v1 H1 =>
  outP CC H1 (w_makeSlice PP 21 H1 v1 v1 none) fun v2 H2 =>
  m_means_middlettth K x1 v2 H2
theorem m_means_middlett_eq (K : AV → AH → Prop) (a : TE) (H : AH) : codeP PP CC (subC (bodyC PP 49) [1, 1]) (m_means_middle_K K) a H = m_means_middlett K (a 0) (a 1) H :=
  have h1 : codeP PP CC (subC (bodyC PP 49) [1, 1]) (m_means_middle_K K) a H = codeP PP CC (subC (bodyC PP 49) [1, 1, 0]) (exP (codeP PP CC (subC (bodyC PP 49) [1, 1, 1]) (m_means_middle_K K)) (m_means_middle_K K)) a H := by kernel_rfl
  have h2 : codeP PP CC (subC (bodyC PP 49) [1, 1, 0]) (exP (codeP PP CC (subC (bodyC PP 49) [1, 1, 1]) (m_means_middle_K K)) (m_means_middle_K K)) a H = codeP PP CC (subC (bodyC PP 49) [1, 1, 0]) (exP (fun (a : TE) (H : AH) => m_means_middlettth K (a 1) (a 5) H) (m_means_middle_K K)) a H := congrArg (fun k : KE => codeP PP CC (subC (bodyC PP 49) [1, 1, 0]) (exP k (m_means_middle_K K)) a H) (funext fun a => funext fun H => m_means_middlettt_eq K a H)
  have h2b : codeP PP CC (subC (bodyC PP 49) [1, 1, 0]) (exP (fun (a : TE) (H : AH) => m_means_middlettth K (a 1) (a 5) H) (m_means_middle_K K)) a H = codeP PP CC (subC (bodyC PP 49) [1, 1, 0]) (m_means_middlett_k K) a H := by kernel_rfl
  have h3 : codeP PP CC (subC (bodyC PP 49) [1, 1, 0]) (m_means_middlett_k K) a H = m_means_middlett K (a 0) (a 1) H := by kernel_rfl
  ((h1.trans h2).trans h2b).trans h3
abbrev m_means_middlet_k (K : AV → AH → Prop) : KP := exP (fun (a : TE) (H : AH) => m_means_middlett K (a 0) (a 1) H) (m_means_middle_K K)
def m_means_middlet (K : AV → AH → Prop) (x0 x1 : AV) (H : AH) : Prop :=
  outP CC H (w_len PP 36 H x1) fun v1 H1 =>
  outP CC H1 (w_int .eql H1 v1 (.int .i64 0)) fun v2 H2 =>
  condP v2
  (K x0 H2)
  (m_means_middlett K x0 x1 H2)
theorem m_means_middlet_eq (K : AV → AH → Prop) (a : TE) (H : AH) : codeP PP CC (subC (bodyC PP 49) [1]) (m_means_middle_K K) a H = m_means_middlet K (a 0) (a 1) H :=
  have h1 : codeP PP CC (subC (bodyC PP 49) [1]) (m_means_middle_K K) a H = codeP PP CC (subC (bodyC PP 49) [1, 0]) (exP (codeP PP CC (subC (bodyC PP 49) [1, 1]) (m_means_middle_K K)) (m_means_middle_K K)) a H := by kernel_rfl
  have h2 : codeP PP CC (subC (bodyC PP 49) [1, 0]) (exP (codeP PP CC (subC (bodyC PP 49) [1, 1]) (m_means_middle_K K)) (m_means_middle_K K)) a H = codeP PP CC (subC (bodyC PP 49) [1, 0]) (exP (fun (a : TE) (H : AH) => m_means_middlett K (a 0) (a 1) H) (m_means_middle_K K)) a H := congrArg (fun k : KE => codeP PP CC (subC (bodyC PP 49) [1, 0]) (exP k (m_means_middle_K K)) a H) (funext fun a => funext fun H => m_means_middlett_eq K a H)
  have h2b : codeP PP CC (subC (bodyC PP 49) [1, 0]) (exP (fun (a : TE) (H : AH) => m_means_middlett K (a 0) (a 1) H) (m_means_middle_K K)) a H = codeP PP CC (subC (bodyC PP 49) [1, 0]) (m_means_middlet_k K) a H := by kernel_rfl
  have h3 : codeP PP CC (subC (bodyC PP 49) [1, 0]) (m_means_middlet_k K) a H = m_means_middlet K (a 0) (a 1) H := by kernel_rfl
  ((h1.trans h2).trans h2b).trans h3
abbrev m_means_middle_k (K : AV → AH → Prop) : KP := exP (fun (a : TE) (H : AH) => m_means_middlet K (a 0) (a 1) H) (m_means_middle_K K)
def m_means_middle (K : AV → AH → Prop) (x0 x1 : AV) (H : AH) : Prop :=
  m_means_middlet K x0 x1 H
theorem m_means_middle_eq (K : AV → AH → Prop) (a : TE) (H : AH) : codeP PP CC (subC (bodyC PP 49) []) (m_means_middle_K K) a H = m_means_middle K (a 0) (a 1) H :=
  have h1 : codeP PP CC (subC (bodyC PP 49) []) (m_means_middle_K K) a H = codeP PP CC (subC (bodyC PP 49) [0]) (exP (codeP PP CC (subC (bodyC PP 49) [1]) (m_means_middle_K K)) (m_means_middle_K K)) a H := by kernel_rfl
  have h2 : codeP PP CC (subC (bodyC PP 49) [0]) (exP (codeP PP CC (subC (bodyC PP 49) [1]) (m_means_middle_K K)) (m_means_middle_K K)) a H = codeP PP CC (subC (bodyC PP 49) [0]) (exP (fun (a : TE) (H : AH) => m_means_middlet K (a 0) (a 1) H) (m_means_middle_K K)) a H := congrArg (fun k : KE => codeP PP CC (subC (bodyC PP 49) [0]) (exP k (m_means_middle_K K)) a H) (funext fun a => funext fun H => m_means_middlet_eq K a H)
  have h2b : codeP PP CC (subC (bodyC PP 49) [0]) (exP (fun (a : TE) (H : AH) => m_means_middlet K (a 0) (a 1) H) (m_means_middle_K K)) a H = codeP PP CC (subC (bodyC PP 49) [0]) (m_means_middle_k K) a H := by kernel_rfl
  have h3 : codeP PP CC (subC (bodyC PP 49) [0]) (m_means_middle_k K) a H = m_means_middle K (a 0) (a 1) H := by kernel_rfl
  ((h1.trans h2).trans h2b).trans h3
theorem m_means_middle_ok (x0 x1 : AV) (H : AH) (K : AV → AH → Prop) (h : m_means_middle K x0 x1 H) : CC.call 49 [x0, x1] H K :=
  have h1 : funP PP CC 49 [x0, x1] H K = codeP PP CC (subC (bodyC PP 49) []) (m_means_middle_K K) (argE [x0, x1]) H := by kernel_rfl
  have h2 : m_means_middle K (argE [x0, x1] 0) (argE [x0, x1] 1) H = m_means_middle K x0 x1 H := by kernel_rfl
  funP_ok (P := PP) (by kernel_rfl) (by kernel_rfl) ((h1.trans ((m_means_middle_eq K (argE [x0, x1]) H).trans h2)).mpr h)

/-! 82: fieldfare/means.floor -/
abbrev m_means_floor_K (K : AV → AH → Prop) : KP := finP PP (resC PP 82) K
def m_means_floor (K : AV → AH → Prop) (x0 x1 : AV) (H : AH) : Prop :=
  outP CC H (w_int .quo H x0 x1) fun v1 H1 =>
  outP CC H1 (w_int .rem H1 x0 x1) fun v2 H2 =>
  outP CC H2 (w_int .lss H2 v2 (.int .i64 0)) fun v3 H3 =>
  condP v3
  (outP CC H3 (w_int .sub H3 v1 (.int .i64 1)) fun v4 H4 =>
  K v4 H4)
  (K v1 H3)
theorem m_means_floor_eq (K : AV → AH → Prop) (a : TE) (H : AH) : codeP PP CC (subC (bodyC PP 82) []) (m_means_floor_K K) a H = m_means_floor K (a 0) (a 1) H :=
  by kernel_rfl
theorem m_means_floor_ok (x0 x1 : AV) (H : AH) (K : AV → AH → Prop) (h : m_means_floor K x0 x1 H) : CC.call 82 [x0, x1] H K :=
  have h1 : funP PP CC 82 [x0, x1] H K = codeP PP CC (subC (bodyC PP 82) []) (m_means_floor_K K) (argE [x0, x1]) H := by kernel_rfl
  have h2 : m_means_floor K (argE [x0, x1] 0) (argE [x0, x1] 1) H = m_means_floor K x0 x1 H := by kernel_rfl
  funP_ok (P := PP) (by kernel_rfl) (by kernel_rfl) ((h1.trans ((m_means_floor_eq K (argE [x0, x1]) H).trans h2)).mpr h)

end
end Go.Ab
