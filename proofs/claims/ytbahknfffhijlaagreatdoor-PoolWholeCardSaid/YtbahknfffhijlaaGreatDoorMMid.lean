/- What functions do, said as what the evaluator does. Printed by a program. -/
import Derived.Test.YtbahknfffhijlaaGreatDoorBeg
import Derived.Test.YtbahknfffhijlaaGreatDoorEv3
namespace Go.Ab
noncomputable section
open Go.Proofs
set_option maxRecDepth 100000



/-! 19: fieldfare/means.Middles -/
abbrev m_means_Middles_K (K : AV → AH → Prop) : KP := finP PP (resC PP 19) K
abbrev m_means_Middlestttt_k (K : AV → AH → Prop) : KP := exP (codeP PP CC (subC (bodyC PP 19) [1, 1, 1, 1, 1]) (m_means_Middles_K K)) (m_means_Middles_K K)
abbrev m_means_Middlesttttht_k (K : AV → AH → Prop) : KP := blockP 2 (m_means_Middlestttt_k K)
abbrev m_means_Middlestttthtb_k (K : AV → AH → Prop) (r0 : (AV × AV × AV × AV) → AH → Prop) : KP := exP (fun (a : TE) (H : AH) => r0 (a 2, a 7, a 44, a 45) H) (m_means_Middlesttttht_k K)
abbrev m_means_Middlestttthtbltt_k (K : AV → AH → Prop) (r0 : (AV × AV × AV × AV) → AH → Prop) : KP := exP (codeP PP CC (subC (bodyC PP 19) [1, 1, 1, 1, 0, 1, 0, 0, 1, 1, 1]) (m_means_Middlestttthtb_k K r0)) (m_means_Middlestttthtb_k K r0)
abbrev m_means_Middlestttthtbltth_k (K : AV → AH → Prop) (r0 : (AV × AV × AV × AV) → AH → Prop) : KP := blockP 3 (m_means_Middlestttthtbltt_k K r0)
abbrev m_means_Middlestttthtbltthbttt_k (K : AV → AH → Prop) (r0 : (AV × AV × AV × AV) → AH → Prop) : KP := blockP 6 (m_means_Middlestttthtbltth_k K r0)
abbrev m_means_Middlestttthtbltthbtttb_k (K : AV → AH → Prop) (r0 : (AV × AV × AV × AV) → AH → Prop) (r1 : (AV × AV × AV × AV × AV × AV × AV) → AH → Prop) : KP := exP (fun (a : TE) (H : AH) => r1 (a 2, a 7, a 10, a 44, a 45, a 73, a 74) H) (m_means_Middlestttthtbltthbttt_k K r0)
def m_means_Middlestttthtbltthbtttbl (_K : AV → AH → Prop) (r0 : (AV × AV × AV × AV) → AH → Prop) (r1 : (AV × AV × AV × AV × AV × AV × AV) → AH → Prop) (x2 x7 x10 x44 x45 x73 x74 : AV) (H : AH) : Prop :=
  outP CC H (w_int .lss H x74 x73) fun v1 H1 =>
  condP v1
  (outP CC H1 (w_indexAddr (.sl 1) H1 x7 x74) fun v2 H2 =>
  outP CC H2 (w_load none H2 v2) fun v3 H3 =>
  outP CC H3 (w_indexAddr (.sl 1) H3 x10 x74) fun v4 H4 =>
  outP CC H4 (w_load none H4 v4) fun v5 H5 =>
  outP CC H5 (some (.enter 47 [v3, v5])) fun v6 H6 =>
  outP CC H6 (w_indexAddr (.sl 1) H6 x7 x74) fun v7 H7 =>
  outP CC H7 (w_store 1 H7 v7 v6) fun _v8 H8 =>
  outP CC H8 (w_int .add H8 x74 (.int .i64 1)) fun v9 H9 =>
  r1 (x2, x7, x10, x44, x45, x73, v9) H9)
  (outP CC H1 (w_int .add H1 x45 (.int .i64 1)) fun v10 H10 =>
  r0 (x2, x7, x44, v10) H10)
theorem m_means_Middlestttthtbltthbtttbl_eq (K : AV → AH → Prop) (r0 : (AV × AV × AV × AV) → AH → Prop) (r1 : (AV × AV × AV × AV × AV × AV × AV) → AH → Prop) (a : TE) (H : AH) : codeP PP CC (subC (bodyC PP 19) [1, 1, 1, 1, 0, 1, 0, 0, 1, 1, 0, 0, 1, 1, 1, 0, 0]) (m_means_Middlestttthtbltthbtttb_k K r0 r1) a H = m_means_Middlestttthtbltthbtttbl K r0 r1 (a 2) (a 7) (a 10) (a 44) (a 45) (a 73) (a 74) H :=
  by kernel_rfl
def m_means_Middlestttthtbltthbtttb (K : AV → AH → Prop) (r0 : (AV × AV × AV × AV) → AH → Prop) (x2 x7 x10 x44 x45 x73 x74 : AV) (H : AH) : Prop :=
  loopP (fun (r1 : (AV × AV × AV × AV × AV × AV × AV) → AH → Prop) (s : (AV × AV × AV × AV × AV × AV × AV)) (H : AH) => m_means_Middlestttthtbltthbtttbl K r0 r1 s.1 s.2.1 s.2.2.1 s.2.2.2.1 s.2.2.2.2.1 s.2.2.2.2.2.1 s.2.2.2.2.2.2 H) (x2, x7, x10, x44, x45, x73, x74) H
theorem m_means_Middlestttthtbltthbtttb_eq (K : AV → AH → Prop) (r0 : (AV × AV × AV × AV) → AH → Prop) (a : TE) (H : AH) : codeP PP CC (subC (bodyC PP 19) [1, 1, 1, 1, 0, 1, 0, 0, 1, 1, 0, 0, 1, 1, 1, 0]) (m_means_Middlestttthtbltthbttt_k K r0) a H = m_means_Middlestttthtbltthbtttb K r0 (a 2) (a 7) (a 10) (a 44) (a 45) (a 73) (a 74) H :=
  have h1 : codeP PP CC (subC (bodyC PP 19) [1, 1, 1, 1, 0, 1, 0, 0, 1, 1, 0, 0, 1, 1, 1, 0]) (m_means_Middlestttthtbltthbttt_k K r0) a H = loopP (fun (rec : KE) => codeP PP CC (subC (bodyC PP 19) [1, 1, 1, 1, 0, 1, 0, 0, 1, 1, 0, 0, 1, 1, 1, 0, 0]) (exP rec (m_means_Middlestttthtbltthbttt_k K r0))) a H := by kernel_rfl
  have h2 := loopP_iso (F := fun (rec : KE) => codeP PP CC (subC (bodyC PP 19) [1, 1, 1, 1, 0, 1, 0, 0, 1, 1, 0, 0, 1, 1, 1, 0, 0]) (exP rec (m_means_Middlestttthtbltthbttt_k K r0))) (S := (AV × AV × AV × AV × AV × AV × AV)) (fun a => (a 2, a 7, a 10, a 44, a 45, a 73, a 74)) (fun (r1 : (AV × AV × AV × AV × AV × AV × AV) → AH → Prop) (s : (AV × AV × AV × AV × AV × AV × AV)) (H : AH) => m_means_Middlestttthtbltthbtttbl K r0 r1 s.1 s.2.1 s.2.2.1 s.2.2.2.1 s.2.2.2.2.1 s.2.2.2.2.2.1 s.2.2.2.2.2.2 H) (fun (r1 : (AV × AV × AV × AV × AV × AV × AV) → AH → Prop) (a : TE) (H : AH) => (show codeP PP CC (subC (bodyC PP 19) [1, 1, 1, 1, 0, 1, 0, 0, 1, 1, 0, 0, 1, 1, 1, 0, 0]) (exP (fun (a : TE) (H : AH) => r1 (a 2, a 7, a 10, a 44, a 45, a 73, a 74) H) (m_means_Middlestttthtbltthbttt_k K r0)) a H = codeP PP CC (subC (bodyC PP 19) [1, 1, 1, 1, 0, 1, 0, 0, 1, 1, 0, 0, 1, 1, 1, 0, 0]) (m_means_Middlestttthtbltthbtttb_k K r0 r1) a H from by kernel_rfl).trans (m_means_Middlestttthtbltthbtttbl_eq K r0 r1 a H)) a H
  h1.trans h2
theorem m_means_Middlestttthtbltthbttt_eq (K : AV → AH → Prop) (r0 : (AV × AV × AV × AV) → AH → Prop) (a : TE) (H : AH) : codeP PP CC (subC (bodyC PP 19) [1, 1, 1, 1, 0, 1, 0, 0, 1, 1, 0, 0, 1, 1, 1]) (m_means_Middlestttthtbltth_k K r0) a H = m_means_Middlestttthtbltthbtttb K r0 (a 2) (a 7) (a 10) (a 44) (a 45) (a 73) (a 74) H :=
  have h1 : codeP PP CC (subC (bodyC PP 19) [1, 1, 1, 1, 0, 1, 0, 0, 1, 1, 0, 0, 1, 1, 1]) (m_means_Middlestttthtbltth_k K r0) a H = codeP PP CC (subC (bodyC PP 19) [1, 1, 1, 1, 0, 1, 0, 0, 1, 1, 0, 0, 1, 1, 1, 0]) (m_means_Middlestttthtbltthbttt_k K r0) a H := by kernel_rfl
  h1.trans (m_means_Middlestttthtbltthbtttb_eq K r0 a H)
abbrev m_means_Middlestttthtbltthbtt_k (K : AV → AH → Prop) (r0 : (AV × AV × AV × AV) → AH → Prop) : KP := exP (fun (a : TE) (H : AH) => m_means_Middlestttthtbltthbtttb K r0 (a 2) (a 7) (a 10) (a 44) (a 45) (a 73) (a 74) H) (m_means_Middlestttthtbltth_k K r0)
def m_means_Middlestttthtbltthbtt (K : AV → AH → Prop) (r0 : (AV × AV × AV × AV) → AH → Prop) (x2 x7 x10 x44 x45 : AV) (H : AH) : Prop :=
  outP CC H (w_len PP 58 H x7) fun v1 H1 =>
  m_means_Middlestttthtbltthbtttb K r0 x2 x7 x10 x44 x45 v1 (.int .i64 0) H1
theorem m_means_Middlestttthtbltthbtt_eq (K : AV → AH → Prop) (r0 : (AV × AV × AV × AV) → AH → Prop) (a : TE) (H : AH) : codeP PP CC (subC (bodyC PP 19) [1, 1, 1, 1, 0, 1, 0, 0, 1, 1, 0, 0, 1, 1]) (m_means_Middlestttthtbltth_k K r0) a H = m_means_Middlestttthtbltthbtt K r0 (a 2) (a 7) (a 10) (a 44) (a 45) H :=
  have h1 : codeP PP CC (subC (bodyC PP 19) [1, 1, 1, 1, 0, 1, 0, 0, 1, 1, 0, 0, 1, 1]) (m_means_Middlestttthtbltth_k K r0) a H = codeP PP CC (subC (bodyC PP 19) [1, 1, 1, 1, 0, 1, 0, 0, 1, 1, 0, 0, 1, 1, 0]) (exP (codeP PP CC (subC (bodyC PP 19) [1, 1, 1, 1, 0, 1, 0, 0, 1, 1, 0, 0, 1, 1, 1]) (m_means_Middlestttthtbltth_k K r0)) (m_means_Middlestttthtbltth_k K r0)) a H := by kernel_rfl
  have h2 : codeP PP CC (subC (bodyC PP 19) [1, 1, 1, 1, 0, 1, 0, 0, 1, 1, 0, 0, 1, 1, 0]) (exP (codeP PP CC (subC (bodyC PP 19) [1, 1, 1, 1, 0, 1, 0, 0, 1, 1, 0, 0, 1, 1, 1]) (m_means_Middlestttthtbltth_k K r0)) (m_means_Middlestttthtbltth_k K r0)) a H = codeP PP CC (subC (bodyC PP 19) [1, 1, 1, 1, 0, 1, 0, 0, 1, 1, 0, 0, 1, 1, 0]) (exP (fun (a : TE) (H : AH) => m_means_Middlestttthtbltthbtttb K r0 (a 2) (a 7) (a 10) (a 44) (a 45) (a 73) (a 74) H) (m_means_Middlestttthtbltth_k K r0)) a H := congrArg (fun k : KE => codeP PP CC (subC (bodyC PP 19) [1, 1, 1, 1, 0, 1, 0, 0, 1, 1, 0, 0, 1, 1, 0]) (exP k (m_means_Middlestttthtbltth_k K r0)) a H) (funext fun a => funext fun H => m_means_Middlestttthtbltthbttt_eq K r0 a H)
  have h2b : codeP PP CC (subC (bodyC PP 19) [1, 1, 1, 1, 0, 1, 0, 0, 1, 1, 0, 0, 1, 1, 0]) (exP (fun (a : TE) (H : AH) => m_means_Middlestttthtbltthbtttb K r0 (a 2) (a 7) (a 10) (a 44) (a 45) (a 73) (a 74) H) (m_means_Middlestttthtbltth_k K r0)) a H = codeP PP CC (subC (bodyC PP 19) [1, 1, 1, 1, 0, 1, 0, 0, 1, 1, 0, 0, 1, 1, 0]) (m_means_Middlestttthtbltthbtt_k K r0) a H := by kernel_rfl
  have h3 : codeP PP CC (subC (bodyC PP 19) [1, 1, 1, 1, 0, 1, 0, 0, 1, 1, 0, 0, 1, 1, 0]) (m_means_Middlestttthtbltthbtt_k K r0) a H = m_means_Middlestttthtbltthbtt K r0 (a 2) (a 7) (a 10) (a 44) (a 45) H := by kernel_rfl
  ((h1.trans h2).trans h2b).trans h3
abbrev m_means_Middlestttthtbltthbt_k (K : AV → AH → Prop) (r0 : (AV × AV × AV × AV) → AH → Prop) : KP := exP (fun (a : TE) (H : AH) => m_means_Middlestttthtbltthbtt K r0 (a 2) (a 7) (a 10) (a 44) (a 45) H) (m_means_Middlestttthtbltth_k K r0)
abbrev m_means_Middlestttthtbltthbtht_k (K : AV → AH → Prop) (r0 : (AV × AV × AV × AV) → AH → Prop) : KP := blockP 4 (m_means_Middlestttthtbltthbt_k K r0)
abbrev m_means_Middlestttthtbltthbthtb_k (K : AV → AH → Prop) (r0 : (AV × AV × AV × AV) → AH → Prop) (r1 : (AV × AV × AV × AV × AV × AV × AV × AV) → AH → Prop) : KP := exP (fun (a : TE) (H : AH) => r1 (a 2, a 7, a 10, a 44, a 45, a 50, a 51, a 52) H) (m_means_Middlestttthtbltthbtht_k K r0)
def m_means_Middlestttthtbltthbthtbl (K : AV → AH → Prop) (r0 : (AV × AV × AV × AV) → AH → Prop) (r1 : (AV × AV × AV × AV × AV × AV × AV × AV) → AH → Prop) (x2 x7 x10 x44 x45 x50 x51 x52 : AV) (H : AH) : Prop :=
  outP CC H (w_int .lss H x52 x51) fun v1 H1 =>
  condP v1
  (outP CC H1 (w_indexAddr (.sl 1) H1 x50 x52) fun v2 H2 =>
  outP CC H2 (w_load none H2 v2) fun v3 H3 =>
  outP CC H3 (some (.enter 21 [x7, v3])) fun v4 H4 =>
  outP CC H4 (w_int .geq H4 v4 (.int .i64 0)) fun v5 H5 =>
  condP v5
  (outP CC H5 (w_indexAddr (.sl 1) H5 x10 v4) fun v6 H6 =>
  outP CC H6 (w_load none H6 v6) fun v7 H7 =>
  outP CC H7 (w_buildSlice PP 49 1 H7 [(0, v3)] none) fun v8 H8 =>
  outP CC H8 (w_append 49 1 24 H8 v7 v8 none) fun v9 H9 =>
  outP CC H9 (w_indexAddr (.sl 1) H9 x10 v4) fun v10 H10 =>
  outP CC H10 (w_store 1 H10 v10 v9) fun _v11 H11 =>
  outP CC H11 (w_int .add H11 x52 (.int .i64 1)) fun v12 H12 =>
  r1 (x2, x7, x10, x44, x45, x50, x51, v12) H12)
  (outP CC H5 (w_int .add H5 x52 (.int .i64 1)) fun v13 H13 =>
  r1 (x2, x7, x10, x44, x45, x50, x51, v13) H13))
  (m_means_Middlestttthtbltthbtt K r0 x2 x7 x10 x44 x45 H1)
theorem m_means_Middlestttthtbltthbthtbl_eq (K : AV → AH → Prop) (r0 : (AV × AV × AV × AV) → AH → Prop) (r1 : (AV × AV × AV × AV × AV × AV × AV × AV) → AH → Prop) (a : TE) (H : AH) : codeP PP CC (subC (bodyC PP 19) [1, 1, 1, 1, 0, 1, 0, 0, 1, 1, 0, 0, 1, 0, 1, 0, 0]) (m_means_Middlestttthtbltthbthtb_k K r0 r1) a H = m_means_Middlestttthtbltthbthtbl K r0 r1 (a 2) (a 7) (a 10) (a 44) (a 45) (a 50) (a 51) (a 52) H :=
  by kernel_rfl
def m_means_Middlestttthtbltthbthtb (K : AV → AH → Prop) (r0 : (AV × AV × AV × AV) → AH → Prop) (x2 x7 x10 x44 x45 x50 x51 x52 : AV) (H : AH) : Prop :=
  loopP (fun (r1 : (AV × AV × AV × AV × AV × AV × AV × AV) → AH → Prop) (s : (AV × AV × AV × AV × AV × AV × AV × AV)) (H : AH) => m_means_Middlestttthtbltthbthtbl K r0 r1 s.1 s.2.1 s.2.2.1 s.2.2.2.1 s.2.2.2.2.1 s.2.2.2.2.2.1 s.2.2.2.2.2.2.1 s.2.2.2.2.2.2.2 H) (x2, x7, x10, x44, x45, x50, x51, x52) H
theorem m_means_Middlestttthtbltthbthtb_eq (K : AV → AH → Prop) (r0 : (AV × AV × AV × AV) → AH → Prop) (a : TE) (H : AH) : codeP PP CC (subC (bodyC PP 19) [1, 1, 1, 1, 0, 1, 0, 0, 1, 1, 0, 0, 1, 0, 1, 0]) (m_means_Middlestttthtbltthbtht_k K r0) a H = m_means_Middlestttthtbltthbthtb K r0 (a 2) (a 7) (a 10) (a 44) (a 45) (a 50) (a 51) (a 52) H :=
  have h1 : codeP PP CC (subC (bodyC PP 19) [1, 1, 1, 1, 0, 1, 0, 0, 1, 1, 0, 0, 1, 0, 1, 0]) (m_means_Middlestttthtbltthbtht_k K r0) a H = loopP (fun (rec : KE) => codeP PP CC (subC (bodyC PP 19) [1, 1, 1, 1, 0, 1, 0, 0, 1, 1, 0, 0, 1, 0, 1, 0, 0]) (exP rec (m_means_Middlestttthtbltthbtht_k K r0))) a H := by kernel_rfl
  have h2 := loopP_iso (F := fun (rec : KE) => codeP PP CC (subC (bodyC PP 19) [1, 1, 1, 1, 0, 1, 0, 0, 1, 1, 0, 0, 1, 0, 1, 0, 0]) (exP rec (m_means_Middlestttthtbltthbtht_k K r0))) (S := (AV × AV × AV × AV × AV × AV × AV × AV)) (fun a => (a 2, a 7, a 10, a 44, a 45, a 50, a 51, a 52)) (fun (r1 : (AV × AV × AV × AV × AV × AV × AV × AV) → AH → Prop) (s : (AV × AV × AV × AV × AV × AV × AV × AV)) (H : AH) => m_means_Middlestttthtbltthbthtbl K r0 r1 s.1 s.2.1 s.2.2.1 s.2.2.2.1 s.2.2.2.2.1 s.2.2.2.2.2.1 s.2.2.2.2.2.2.1 s.2.2.2.2.2.2.2 H) (fun (r1 : (AV × AV × AV × AV × AV × AV × AV × AV) → AH → Prop) (a : TE) (H : AH) => (show codeP PP CC (subC (bodyC PP 19) [1, 1, 1, 1, 0, 1, 0, 0, 1, 1, 0, 0, 1, 0, 1, 0, 0]) (exP (fun (a : TE) (H : AH) => r1 (a 2, a 7, a 10, a 44, a 45, a 50, a 51, a 52) H) (m_means_Middlestttthtbltthbtht_k K r0)) a H = codeP PP CC (subC (bodyC PP 19) [1, 1, 1, 1, 0, 1, 0, 0, 1, 1, 0, 0, 1, 0, 1, 0, 0]) (m_means_Middlestttthtbltthbthtb_k K r0 r1) a H from by kernel_rfl).trans (m_means_Middlestttthtbltthbthtbl_eq K r0 r1 a H)) a H
  h1.trans h2
theorem m_means_Middlestttthtbltthbtht_eq (K : AV → AH → Prop) (r0 : (AV × AV × AV × AV) → AH → Prop) (a : TE) (H : AH) : codeP PP CC (subC (bodyC PP 19) [1, 1, 1, 1, 0, 1, 0, 0, 1, 1, 0, 0, 1, 0, 1]) (m_means_Middlestttthtbltthbt_k K r0) a H = m_means_Middlestttthtbltthbthtb K r0 (a 2) (a 7) (a 10) (a 44) (a 45) (a 50) (a 51) (a 52) H :=
  have h1 : codeP PP CC (subC (bodyC PP 19) [1, 1, 1, 1, 0, 1, 0, 0, 1, 1, 0, 0, 1, 0, 1]) (m_means_Middlestttthtbltthbt_k K r0) a H = codeP PP CC (subC (bodyC PP 19) [1, 1, 1, 1, 0, 1, 0, 0, 1, 1, 0, 0, 1, 0, 1, 0]) (m_means_Middlestttthtbltthbtht_k K r0) a H := by kernel_rfl
  h1.trans (m_means_Middlestttthtbltthbthtb_eq K r0 a H)
abbrev m_means_Middlestttthtbltthbth_k (K : AV → AH → Prop) (r0 : (AV × AV × AV × AV) → AH → Prop) : KP := exP (fun (a : TE) (H : AH) => m_means_Middlestttthtbltthbthtb K r0 (a 2) (a 7) (a 10) (a 44) (a 45) (a 50) (a 51) (a 52) H) (m_means_Middlestttthtbltthbt_k K r0)
def m_means_Middlestttthtbltthbth (K : AV → AH → Prop) (r0 : (AV × AV × AV × AV) → AH → Prop) (x2 x7 x10 x44 x45 : AV) (H : AH) : Prop :=
  outP CC H (w_len PP 58 H x2) fun v1 H1 =>
  m_means_Middlestttthtbltthbthtb K r0 x2 x7 x10 x44 x45 x2 v1 (.int .i64 0) H1
theorem m_means_Middlestttthtbltthbth_eq (K : AV → AH → Prop) (r0 : (AV × AV × AV × AV) → AH → Prop) (a : TE) (H : AH) : codeP PP CC (subC (bodyC PP 19) [1, 1, 1, 1, 0, 1, 0, 0, 1, 1, 0, 0, 1, 0]) (m_means_Middlestttthtbltthbt_k K r0) a H = m_means_Middlestttthtbltthbth K r0 (a 2) (a 7) (a 10) (a 44) (a 45) H :=
  have h1 : codeP PP CC (subC (bodyC PP 19) [1, 1, 1, 1, 0, 1, 0, 0, 1, 1, 0, 0, 1, 0]) (m_means_Middlestttthtbltthbt_k K r0) a H = codeP PP CC (subC (bodyC PP 19) [1, 1, 1, 1, 0, 1, 0, 0, 1, 1, 0, 0, 1, 0, 0]) (exP (codeP PP CC (subC (bodyC PP 19) [1, 1, 1, 1, 0, 1, 0, 0, 1, 1, 0, 0, 1, 0, 1]) (m_means_Middlestttthtbltthbt_k K r0)) (m_means_Middlestttthtbltthbt_k K r0)) a H := by kernel_rfl
  have h2 : codeP PP CC (subC (bodyC PP 19) [1, 1, 1, 1, 0, 1, 0, 0, 1, 1, 0, 0, 1, 0, 0]) (exP (codeP PP CC (subC (bodyC PP 19) [1, 1, 1, 1, 0, 1, 0, 0, 1, 1, 0, 0, 1, 0, 1]) (m_means_Middlestttthtbltthbt_k K r0)) (m_means_Middlestttthtbltthbt_k K r0)) a H = codeP PP CC (subC (bodyC PP 19) [1, 1, 1, 1, 0, 1, 0, 0, 1, 1, 0, 0, 1, 0, 0]) (exP (fun (a : TE) (H : AH) => m_means_Middlestttthtbltthbthtb K r0 (a 2) (a 7) (a 10) (a 44) (a 45) (a 50) (a 51) (a 52) H) (m_means_Middlestttthtbltthbt_k K r0)) a H := congrArg (fun k : KE => codeP PP CC (subC (bodyC PP 19) [1, 1, 1, 1, 0, 1, 0, 0, 1, 1, 0, 0, 1, 0, 0]) (exP k (m_means_Middlestttthtbltthbt_k K r0)) a H) (funext fun a => funext fun H => m_means_Middlestttthtbltthbtht_eq K r0 a H)
  have h2b : codeP PP CC (subC (bodyC PP 19) [1, 1, 1, 1, 0, 1, 0, 0, 1, 1, 0, 0, 1, 0, 0]) (exP (fun (a : TE) (H : AH) => m_means_Middlestttthtbltthbthtb K r0 (a 2) (a 7) (a 10) (a 44) (a 45) (a 50) (a 51) (a 52) H) (m_means_Middlestttthtbltthbt_k K r0)) a H = codeP PP CC (subC (bodyC PP 19) [1, 1, 1, 1, 0, 1, 0, 0, 1, 1, 0, 0, 1, 0, 0]) (m_means_Middlestttthtbltthbth_k K r0) a H := by kernel_rfl
  have h3 : codeP PP CC (subC (bodyC PP 19) [1, 1, 1, 1, 0, 1, 0, 0, 1, 1, 0, 0, 1, 0, 0]) (m_means_Middlestttthtbltthbth_k K r0) a H = m_means_Middlestttthtbltthbth K r0 (a 2) (a 7) (a 10) (a 44) (a 45) H := by kernel_rfl
  ((h1.trans h2).trans h2b).trans h3
theorem m_means_Middlestttthtbltthbt_eq (K : AV → AH → Prop) (r0 : (AV × AV × AV × AV) → AH → Prop) (a : TE) (H : AH) : codeP PP CC (subC (bodyC PP 19) [1, 1, 1, 1, 0, 1, 0, 0, 1, 1, 0, 0, 1]) (m_means_Middlestttthtbltth_k K r0) a H = m_means_Middlestttthtbltthbth K r0 (a 2) (a 7) (a 10) (a 44) (a 45) H :=
  have h1 : codeP PP CC (subC (bodyC PP 19) [1, 1, 1, 1, 0, 1, 0, 0, 1, 1, 0, 0, 1]) (m_means_Middlestttthtbltth_k K r0) a H = codeP PP CC (subC (bodyC PP 19) [1, 1, 1, 1, 0, 1, 0, 0, 1, 1, 0, 0, 1, 0]) (exP (codeP PP CC (subC (bodyC PP 19) [1, 1, 1, 1, 0, 1, 0, 0, 1, 1, 0, 0, 1, 1]) (m_means_Middlestttthtbltth_k K r0)) (m_means_Middlestttthtbltth_k K r0)) a H := by kernel_rfl
  have h2 : codeP PP CC (subC (bodyC PP 19) [1, 1, 1, 1, 0, 1, 0, 0, 1, 1, 0, 0, 1, 0]) (exP (codeP PP CC (subC (bodyC PP 19) [1, 1, 1, 1, 0, 1, 0, 0, 1, 1, 0, 0, 1, 1]) (m_means_Middlestttthtbltth_k K r0)) (m_means_Middlestttthtbltth_k K r0)) a H = codeP PP CC (subC (bodyC PP 19) [1, 1, 1, 1, 0, 1, 0, 0, 1, 1, 0, 0, 1, 0]) (exP (fun (a : TE) (H : AH) => m_means_Middlestttthtbltthbtt K r0 (a 2) (a 7) (a 10) (a 44) (a 45) H) (m_means_Middlestttthtbltth_k K r0)) a H := congrArg (fun k : KE => codeP PP CC (subC (bodyC PP 19) [1, 1, 1, 1, 0, 1, 0, 0, 1, 1, 0, 0, 1, 0]) (exP k (m_means_Middlestttthtbltth_k K r0)) a H) (funext fun a => funext fun H => m_means_Middlestttthtbltthbtt_eq K r0 a H)
  have h2b : codeP PP CC (subC (bodyC PP 19) [1, 1, 1, 1, 0, 1, 0, 0, 1, 1, 0, 0, 1, 0]) (exP (fun (a : TE) (H : AH) => m_means_Middlestttthtbltthbtt K r0 (a 2) (a 7) (a 10) (a 44) (a 45) H) (m_means_Middlestttthtbltth_k K r0)) a H = codeP PP CC (subC (bodyC PP 19) [1, 1, 1, 1, 0, 1, 0, 0, 1, 1, 0, 0, 1, 0]) (m_means_Middlestttthtbltthbt_k K r0) a H := by kernel_rfl
  ((h1.trans h2).trans h2b).trans (m_means_Middlestttthtbltthbth_eq K r0 a H)
abbrev m_means_Middlestttthtbltthb_k (K : AV → AH → Prop) (r0 : (AV × AV × AV × AV) → AH → Prop) : KP := exP (fun (a : TE) (H : AH) => m_means_Middlestttthtbltthbth K r0 (a 2) (a 7) (a 10) (a 44) (a 45) H) (m_means_Middlestttthtbltth_k K r0)
def m_means_Middlestttthtbltthb (K : AV → AH → Prop) (r0 : (AV × AV × AV × AV) → AH → Prop) (x2 x7 x44 x45 : AV) (H : AH) : Prop :=
  outP CC H (w_len PP 58 H x7) fun v1 H1 =>
  outP CC H1 (w_makeSlice PP 58 H1 v1 v1 none) fun v2 H2 =>
  m_means_Middlestttthtbltthbth K r0 x2 x7 v2 x44 x45 H2
theorem m_means_Middlestttthtbltthb_eq (K : AV → AH → Prop) (r0 : (AV × AV × AV × AV) → AH → Prop) (a : TE) (H : AH) : codeP PP CC (subC (bodyC PP 19) [1, 1, 1, 1, 0, 1, 0, 0, 1, 1, 0, 0]) (m_means_Middlestttthtbltth_k K r0) a H = m_means_Middlestttthtbltthb K r0 (a 2) (a 7) (a 44) (a 45) H :=
  have h1 : codeP PP CC (subC (bodyC PP 19) [1, 1, 1, 1, 0, 1, 0, 0, 1, 1, 0, 0]) (m_means_Middlestttthtbltth_k K r0) a H = codeP PP CC (subC (bodyC PP 19) [1, 1, 1, 1, 0, 1, 0, 0, 1, 1, 0, 0, 0]) (exP (codeP PP CC (subC (bodyC PP 19) [1, 1, 1, 1, 0, 1, 0, 0, 1, 1, 0, 0, 1]) (m_means_Middlestttthtbltth_k K r0)) (m_means_Middlestttthtbltth_k K r0)) a H := by kernel_rfl
  have h2 : codeP PP CC (subC (bodyC PP 19) [1, 1, 1, 1, 0, 1, 0, 0, 1, 1, 0, 0, 0]) (exP (codeP PP CC (subC (bodyC PP 19) [1, 1, 1, 1, 0, 1, 0, 0, 1, 1, 0, 0, 1]) (m_means_Middlestttthtbltth_k K r0)) (m_means_Middlestttthtbltth_k K r0)) a H = codeP PP CC (subC (bodyC PP 19) [1, 1, 1, 1, 0, 1, 0, 0, 1, 1, 0, 0, 0]) (exP (fun (a : TE) (H : AH) => m_means_Middlestttthtbltthbth K r0 (a 2) (a 7) (a 10) (a 44) (a 45) H) (m_means_Middlestttthtbltth_k K r0)) a H := congrArg (fun k : KE => codeP PP CC (subC (bodyC PP 19) [1, 1, 1, 1, 0, 1, 0, 0, 1, 1, 0, 0, 0]) (exP k (m_means_Middlestttthtbltth_k K r0)) a H) (funext fun a => funext fun H => m_means_Middlestttthtbltthbt_eq K r0 a H)
  have h2b : codeP PP CC (subC (bodyC PP 19) [1, 1, 1, 1, 0, 1, 0, 0, 1, 1, 0, 0, 0]) (exP (fun (a : TE) (H : AH) => m_means_Middlestttthtbltthbth K r0 (a 2) (a 7) (a 10) (a 44) (a 45) H) (m_means_Middlestttthtbltth_k K r0)) a H = codeP PP CC (subC (bodyC PP 19) [1, 1, 1, 1, 0, 1, 0, 0, 1, 1, 0, 0, 0]) (m_means_Middlestttthtbltthb_k K r0) a H := by kernel_rfl
  have h3 : codeP PP CC (subC (bodyC PP 19) [1, 1, 1, 1, 0, 1, 0, 0, 1, 1, 0, 0, 0]) (m_means_Middlestttthtbltthb_k K r0) a H = m_means_Middlestttthtbltthb K r0 (a 2) (a 7) (a 44) (a 45) H := by kernel_rfl
  ((h1.trans h2).trans h2b).trans h3
theorem m_means_Middlestttthtbltth_eq (K : AV → AH → Prop) (r0 : (AV × AV × AV × AV) → AH → Prop) (a : TE) (H : AH) : codeP PP CC (subC (bodyC PP 19) [1, 1, 1, 1, 0, 1, 0, 0, 1, 1, 0]) (m_means_Middlestttthtbltt_k K r0) a H = m_means_Middlestttthtbltthb K r0 (a 2) (a 7) (a 44) (a 45) H :=
  have h1 : codeP PP CC (subC (bodyC PP 19) [1, 1, 1, 1, 0, 1, 0, 0, 1, 1, 0]) (m_means_Middlestttthtbltt_k K r0) a H = codeP PP CC (subC (bodyC PP 19) [1, 1, 1, 1, 0, 1, 0, 0, 1, 1, 0, 0]) (m_means_Middlestttthtbltth_k K r0) a H := by kernel_rfl
  h1.trans (m_means_Middlestttthtbltthb_eq K r0 a H)
theorem m_means_Middlestttthtbltt_eq (K : AV → AH → Prop) (r0 : (AV × AV × AV × AV) → AH → Prop) (a : TE) (H : AH) : codeP PP CC (subC (bodyC PP 19) [1, 1, 1, 1, 0, 1, 0, 0, 1, 1]) (m_means_Middlestttthtb_k K r0) a H = m_means_Middlestttthtbltthb K r0 (a 2) (a 7) (a 44) (a 45) H :=
  have h1 : codeP PP CC (subC (bodyC PP 19) [1, 1, 1, 1, 0, 1, 0, 0, 1, 1]) (m_means_Middlestttthtb_k K r0) a H = codeP PP CC (subC (bodyC PP 19) [1, 1, 1, 1, 0, 1, 0, 0, 1, 1, 0]) (m_means_Middlestttthtbltt_k K r0) a H := by kernel_rfl
  h1.trans (m_means_Middlestttthtbltth_eq K r0 a H)
abbrev m_means_Middlestttthtblt_k (K : AV → AH → Prop) (r0 : (AV × AV × AV × AV) → AH → Prop) : KP := exP (fun (a : TE) (H : AH) => m_means_Middlestttthtbltthb K r0 (a 2) (a 7) (a 44) (a 45) H) (m_means_Middlestttthtb_k K r0)
def m_means_Middlestttthtblt (K : AV → AH → Prop) (r0 : (AV × AV × AV × AV) → AH → Prop) (x2 x7 x44 x45 x46 : AV) (H : AH) : Prop :=
  condP x46
  (m_means_Middlestttthtbltthb K r0 x2 x7 x44 x45 H)
  (K x7 H)
theorem m_means_Middlestttthtblt_eq (K : AV → AH → Prop) (r0 : (AV × AV × AV × AV) → AH → Prop) (a : TE) (H : AH) : codeP PP CC (subC (bodyC PP 19) [1, 1, 1, 1, 0, 1, 0, 0, 1]) (m_means_Middlestttthtb_k K r0) a H = m_means_Middlestttthtblt K r0 (a 2) (a 7) (a 44) (a 45) (a 46) H :=
  have h1 : codeP PP CC (subC (bodyC PP 19) [1, 1, 1, 1, 0, 1, 0, 0, 1]) (m_means_Middlestttthtb_k K r0) a H = codeP PP CC (subC (bodyC PP 19) [1, 1, 1, 1, 0, 1, 0, 0, 1, 0]) (exP (codeP PP CC (subC (bodyC PP 19) [1, 1, 1, 1, 0, 1, 0, 0, 1, 1]) (m_means_Middlestttthtb_k K r0)) (m_means_Middlestttthtb_k K r0)) a H := by kernel_rfl
  have h2 : codeP PP CC (subC (bodyC PP 19) [1, 1, 1, 1, 0, 1, 0, 0, 1, 0]) (exP (codeP PP CC (subC (bodyC PP 19) [1, 1, 1, 1, 0, 1, 0, 0, 1, 1]) (m_means_Middlestttthtb_k K r0)) (m_means_Middlestttthtb_k K r0)) a H = codeP PP CC (subC (bodyC PP 19) [1, 1, 1, 1, 0, 1, 0, 0, 1, 0]) (exP (fun (a : TE) (H : AH) => m_means_Middlestttthtbltthb K r0 (a 2) (a 7) (a 44) (a 45) H) (m_means_Middlestttthtb_k K r0)) a H := congrArg (fun k : KE => codeP PP CC (subC (bodyC PP 19) [1, 1, 1, 1, 0, 1, 0, 0, 1, 0]) (exP k (m_means_Middlestttthtb_k K r0)) a H) (funext fun a => funext fun H => m_means_Middlestttthtbltt_eq K r0 a H)
  have h2b : codeP PP CC (subC (bodyC PP 19) [1, 1, 1, 1, 0, 1, 0, 0, 1, 0]) (exP (fun (a : TE) (H : AH) => m_means_Middlestttthtbltthb K r0 (a 2) (a 7) (a 44) (a 45) H) (m_means_Middlestttthtb_k K r0)) a H = codeP PP CC (subC (bodyC PP 19) [1, 1, 1, 1, 0, 1, 0, 0, 1, 0]) (m_means_Middlestttthtblt_k K r0) a H := by kernel_rfl
  have h3 : codeP PP CC (subC (bodyC PP 19) [1, 1, 1, 1, 0, 1, 0, 0, 1, 0]) (m_means_Middlestttthtblt_k K r0) a H = m_means_Middlestttthtblt K r0 (a 2) (a 7) (a 44) (a 45) (a 46) H := by kernel_rfl
  ((h1.trans h2).trans h2b).trans h3
abbrev m_means_Middlestttthtbl_k (K : AV → AH → Prop) (r0 : (AV × AV × AV × AV) → AH → Prop) : KP := exP (fun (a : TE) (H : AH) => m_means_Middlestttthtblt K r0 (a 2) (a 7) (a 44) (a 45) (a 46) H) (m_means_Middlestttthtb_k K r0)
def m_means_Middlestttthtbl (K : AV → AH → Prop) (r0 : (AV × AV × AV × AV) → AH → Prop) (x2 x7 x44 x45 : AV) (H : AH) : Prop :=
  outP CC H (w_int .lss H x45 x44) fun v1 H1 =>
  m_means_Middlestttthtblt K r0 x2 x7 x44 x45 v1 H1
theorem m_means_Middlestttthtbl_eq (K : AV → AH → Prop) (r0 : (AV × AV × AV × AV) → AH → Prop) (a : TE) (H : AH) : codeP PP CC (subC (bodyC PP 19) [1, 1, 1, 1, 0, 1, 0, 0]) (m_means_Middlestttthtb_k K r0) a H = m_means_Middlestttthtbl K r0 (a 2) (a 7) (a 44) (a 45) H :=
  have h1 : codeP PP CC (subC (bodyC PP 19) [1, 1, 1, 1, 0, 1, 0, 0]) (m_means_Middlestttthtb_k K r0) a H = codeP PP CC (subC (bodyC PP 19) [1, 1, 1, 1, 0, 1, 0, 0, 0]) (exP (codeP PP CC (subC (bodyC PP 19) [1, 1, 1, 1, 0, 1, 0, 0, 1]) (m_means_Middlestttthtb_k K r0)) (m_means_Middlestttthtb_k K r0)) a H := by kernel_rfl
  have h2 : codeP PP CC (subC (bodyC PP 19) [1, 1, 1, 1, 0, 1, 0, 0, 0]) (exP (codeP PP CC (subC (bodyC PP 19) [1, 1, 1, 1, 0, 1, 0, 0, 1]) (m_means_Middlestttthtb_k K r0)) (m_means_Middlestttthtb_k K r0)) a H = codeP PP CC (subC (bodyC PP 19) [1, 1, 1, 1, 0, 1, 0, 0, 0]) (exP (fun (a : TE) (H : AH) => m_means_Middlestttthtblt K r0 (a 2) (a 7) (a 44) (a 45) (a 46) H) (m_means_Middlestttthtb_k K r0)) a H := congrArg (fun k : KE => codeP PP CC (subC (bodyC PP 19) [1, 1, 1, 1, 0, 1, 0, 0, 0]) (exP k (m_means_Middlestttthtb_k K r0)) a H) (funext fun a => funext fun H => m_means_Middlestttthtblt_eq K r0 a H)
  have h2b : codeP PP CC (subC (bodyC PP 19) [1, 1, 1, 1, 0, 1, 0, 0, 0]) (exP (fun (a : TE) (H : AH) => m_means_Middlestttthtblt K r0 (a 2) (a 7) (a 44) (a 45) (a 46) H) (m_means_Middlestttthtb_k K r0)) a H = codeP PP CC (subC (bodyC PP 19) [1, 1, 1, 1, 0, 1, 0, 0, 0]) (m_means_Middlestttthtbl_k K r0) a H := by kernel_rfl
  have h3 : codeP PP CC (subC (bodyC PP 19) [1, 1, 1, 1, 0, 1, 0, 0, 0]) (m_means_Middlestttthtbl_k K r0) a H = m_means_Middlestttthtbl K r0 (a 2) (a 7) (a 44) (a 45) H := by kernel_rfl
  ((h1.trans h2).trans h2b).trans h3
def m_means_Middlestttthtb (K : AV → AH → Prop) (x2 x7 x44 x45 : AV) (H : AH) : Prop :=
  loopP (fun (r0 : (AV × AV × AV × AV) → AH → Prop) (s : (AV × AV × AV × AV)) (H : AH) => m_means_Middlestttthtbl K r0 s.1 s.2.1 s.2.2.1 s.2.2.2 H) (x2, x7, x44, x45) H
theorem m_means_Middlestttthtb_eq (K : AV → AH → Prop) (a : TE) (H : AH) : codeP PP CC (subC (bodyC PP 19) [1, 1, 1, 1, 0, 1, 0]) (m_means_Middlesttttht_k K) a H = m_means_Middlestttthtb K (a 2) (a 7) (a 44) (a 45) H :=
  have h1 : codeP PP CC (subC (bodyC PP 19) [1, 1, 1, 1, 0, 1, 0]) (m_means_Middlesttttht_k K) a H = loopP (fun (rec : KE) => codeP PP CC (subC (bodyC PP 19) [1, 1, 1, 1, 0, 1, 0, 0]) (exP rec (m_means_Middlesttttht_k K))) a H := by kernel_rfl
  have h2 := loopP_iso (F := fun (rec : KE) => codeP PP CC (subC (bodyC PP 19) [1, 1, 1, 1, 0, 1, 0, 0]) (exP rec (m_means_Middlesttttht_k K))) (S := (AV × AV × AV × AV)) (fun a => (a 2, a 7, a 44, a 45)) (fun (r0 : (AV × AV × AV × AV) → AH → Prop) (s : (AV × AV × AV × AV)) (H : AH) => m_means_Middlestttthtbl K r0 s.1 s.2.1 s.2.2.1 s.2.2.2 H) (fun (r0 : (AV × AV × AV × AV) → AH → Prop) (a : TE) (H : AH) => (show codeP PP CC (subC (bodyC PP 19) [1, 1, 1, 1, 0, 1, 0, 0]) (exP (fun (a : TE) (H : AH) => r0 (a 2, a 7, a 44, a 45) H) (m_means_Middlesttttht_k K)) a H = codeP PP CC (subC (bodyC PP 19) [1, 1, 1, 1, 0, 1, 0, 0]) (m_means_Middlestttthtb_k K r0) a H from by kernel_rfl).trans (m_means_Middlestttthtbl_eq K r0 a H)) a H
  h1.trans h2
theorem m_means_Middlesttttht_eq (K : AV → AH → Prop) (a : TE) (H : AH) : codeP PP CC (subC (bodyC PP 19) [1, 1, 1, 1, 0, 1]) (m_means_Middlestttt_k K) a H = m_means_Middlestttthtb K (a 2) (a 7) (a 44) (a 45) H :=
  have h1 : codeP PP CC (subC (bodyC PP 19) [1, 1, 1, 1, 0, 1]) (m_means_Middlestttt_k K) a H = codeP PP CC (subC (bodyC PP 19) [1, 1, 1, 1, 0, 1, 0]) (m_means_Middlesttttht_k K) a H := by kernel_rfl
  h1.trans (m_means_Middlestttthtb_eq K a H)
abbrev m_means_Middlestttth_k (K : AV → AH → Prop) : KP := exP (fun (a : TE) (H : AH) => m_means_Middlestttthtb K (a 2) (a 7) (a 44) (a 45) H) (m_means_Middlestttt_k K)
def m_means_Middlestttth (K : AV → AH → Prop) (x1 x2 x7 : AV) (H : AH) : Prop :=
  m_means_Middlestttthtb K x2 x7 x1 (.int .i64 0) H
theorem m_means_Middlestttth_eq (K : AV → AH → Prop) (a : TE) (H : AH) : codeP PP CC (subC (bodyC PP 19) [1, 1, 1, 1, 0]) (m_means_Middlestttt_k K) a H = m_means_Middlestttth K (a 1) (a 2) (a 7) H :=
  have h1 : codeP PP CC (subC (bodyC PP 19) [1, 1, 1, 1, 0]) (m_means_Middlestttt_k K) a H = codeP PP CC (subC (bodyC PP 19) [1, 1, 1, 1, 0, 0]) (exP (codeP PP CC (subC (bodyC PP 19) [1, 1, 1, 1, 0, 1]) (m_means_Middlestttt_k K)) (m_means_Middlestttt_k K)) a H := by kernel_rfl
  have h2 : codeP PP CC (subC (bodyC PP 19) [1, 1, 1, 1, 0, 0]) (exP (codeP PP CC (subC (bodyC PP 19) [1, 1, 1, 1, 0, 1]) (m_means_Middlestttt_k K)) (m_means_Middlestttt_k K)) a H = codeP PP CC (subC (bodyC PP 19) [1, 1, 1, 1, 0, 0]) (exP (fun (a : TE) (H : AH) => m_means_Middlestttthtb K (a 2) (a 7) (a 44) (a 45) H) (m_means_Middlestttt_k K)) a H := congrArg (fun k : KE => codeP PP CC (subC (bodyC PP 19) [1, 1, 1, 1, 0, 0]) (exP k (m_means_Middlestttt_k K)) a H) (funext fun a => funext fun H => m_means_Middlesttttht_eq K a H)
  have h2b : codeP PP CC (subC (bodyC PP 19) [1, 1, 1, 1, 0, 0]) (exP (fun (a : TE) (H : AH) => m_means_Middlestttthtb K (a 2) (a 7) (a 44) (a 45) H) (m_means_Middlestttt_k K)) a H = codeP PP CC (subC (bodyC PP 19) [1, 1, 1, 1, 0, 0]) (m_means_Middlestttth_k K) a H := by kernel_rfl
  have h3 : codeP PP CC (subC (bodyC PP 19) [1, 1, 1, 1, 0, 0]) (m_means_Middlestttth_k K) a H = m_means_Middlestttth K (a 1) (a 2) (a 7) H := by kernel_rfl
  ((h1.trans h2).trans h2b).trans h3
theorem m_means_Middlestttt_eq (K : AV → AH → Prop) (a : TE) (H : AH) : codeP PP CC (subC (bodyC PP 19) [1, 1, 1, 1]) (m_means_Middles_K K) a H = m_means_Middlestttth K (a 1) (a 2) (a 7) H :=
  have h1 : codeP PP CC (subC (bodyC PP 19) [1, 1, 1, 1]) (m_means_Middles_K K) a H = codeP PP CC (subC (bodyC PP 19) [1, 1, 1, 1, 0]) (m_means_Middlestttt_k K) a H := by kernel_rfl
  h1.trans (m_means_Middlestttth_eq K a H)
abbrev m_means_Middlesttt_k (K : AV → AH → Prop) : KP := exP (fun (a : TE) (H : AH) => m_means_Middlestttth K (a 1) (a 2) (a 7) H) (m_means_Middles_K K)
abbrev m_means_Middlestttht_k (K : AV → AH → Prop) : KP := blockP 0 (m_means_Middlesttt_k K)
abbrev m_means_Middlesttthtb_k (K : AV → AH → Prop) (r0 : (AV × AV × AV × AV × AV × AV × AV) → AH → Prop) : KP := exP (fun (a : TE) (H : AH) => r0 (a 0, a 1, a 2, a 7, a 21, a 22, a 23) H) (m_means_Middlestttht_k K)
def m_means_Middlesttthtbl (K : AV → AH → Prop) (r0 : (AV × AV × AV × AV × AV × AV × AV) → AH → Prop) (x0 x1 x2 x7 x21 x22 x23 : AV) (H : AH) : Prop :=
  outP CC H (w_int .lss H x23 x22) fun v1 H1 =>
  condP v1
  (outP CC H1 (w_indexAddr (.sl 1) H1 x21 x23) fun v2 H2 =>
  outP CC H2 (w_load none H2 v2) fun v3 H3 =>
  outP CC H3 (w_alloc 49 [(.slice none 0 0 true)] H3 none) fun v4 H4 =>
  outP CC H4 (w_store 1 H4 v4 v3) fun _v5 H5 =>
  outP CC H5 (w_len PP 58 H5 x7) fun v6 H6 =>
  outP CC H6 (w_int .lss H6 v6 x0) fun v7 H7 =>
  guardP (boolIs true v7) H7 (outP CC H7 (some (.val x7 H7))) fun v8 H8 =>
  guardP (boolIs true v7) H8 (outP CC H8 (some (.val (.fn (.func 45) [] [v4]) H8))) fun v9 H9 =>
  guardP (boolIs true v7) H9 (outP CC H9 (some (.enter 44 [v8, v9]))) fun v10 H10 =>
  guardP (boolIs true v7) H10 (outP CC H10 (w_un .not H10 v10)) fun v11 H11 =>
  outP CC H11 (w_pick H11 v7 v11 (.bool false)) fun v12 H12 =>
  condP v12
  (outP CC H12 (w_buildSlice PP 21 0 H12 [] none) fun v13 H13 =>
  outP CC H13 (w_load none H13 v4) fun v14 H14 =>
  outP CC H14 (w_append 21 1 4 H14 v13 v14 none) fun v15 H15 =>
  outP CC H15 (w_buildSlice PP 49 1 H15 [(0, v15)] none) fun v16 H16 =>
  outP CC H16 (w_append 49 1 24 H16 x7 v16 none) fun v17 H17 =>
  outP CC H17 (w_int .add H17 x23 (.int .i64 1)) fun v18 H18 =>
  r0 (x0, x1, x2, v17, x21, x22, v18) H18)
  (outP CC H12 (w_int .add H12 x23 (.int .i64 1)) fun v19 H19 =>
  r0 (x0, x1, x2, x7, x21, x22, v19) H19))
  (m_means_Middlestttth K x1 x2 x7 H1)
theorem m_means_Middlesttthtbl_eq (K : AV → AH → Prop) (r0 : (AV × AV × AV × AV × AV × AV × AV) → AH → Prop) (a : TE) (H : AH) : codeP PP CC (subC (bodyC PP 19) [1, 1, 1, 0, 1, 0, 0]) (m_means_Middlesttthtb_k K r0) a H = m_means_Middlesttthtbl K r0 (a 0) (a 1) (a 2) (a 7) (a 21) (a 22) (a 23) H :=
  by kernel_rfl
def m_means_Middlesttthtb (K : AV → AH → Prop) (x0 x1 x2 x7 x21 x22 x23 : AV) (H : AH) : Prop :=
  loopP (fun (r0 : (AV × AV × AV × AV × AV × AV × AV) → AH → Prop) (s : (AV × AV × AV × AV × AV × AV × AV)) (H : AH) => m_means_Middlesttthtbl K r0 s.1 s.2.1 s.2.2.1 s.2.2.2.1 s.2.2.2.2.1 s.2.2.2.2.2.1 s.2.2.2.2.2.2 H) (x0, x1, x2, x7, x21, x22, x23) H
theorem m_means_Middlesttthtb_eq (K : AV → AH → Prop) (a : TE) (H : AH) : codeP PP CC (subC (bodyC PP 19) [1, 1, 1, 0, 1, 0]) (m_means_Middlestttht_k K) a H = m_means_Middlesttthtb K (a 0) (a 1) (a 2) (a 7) (a 21) (a 22) (a 23) H :=
  have h1 : codeP PP CC (subC (bodyC PP 19) [1, 1, 1, 0, 1, 0]) (m_means_Middlestttht_k K) a H = loopP (fun (rec : KE) => codeP PP CC (subC (bodyC PP 19) [1, 1, 1, 0, 1, 0, 0]) (exP rec (m_means_Middlestttht_k K))) a H := by kernel_rfl
  have h2 := loopP_iso (F := fun (rec : KE) => codeP PP CC (subC (bodyC PP 19) [1, 1, 1, 0, 1, 0, 0]) (exP rec (m_means_Middlestttht_k K))) (S := (AV × AV × AV × AV × AV × AV × AV)) (fun a => (a 0, a 1, a 2, a 7, a 21, a 22, a 23)) (fun (r0 : (AV × AV × AV × AV × AV × AV × AV) → AH → Prop) (s : (AV × AV × AV × AV × AV × AV × AV)) (H : AH) => m_means_Middlesttthtbl K r0 s.1 s.2.1 s.2.2.1 s.2.2.2.1 s.2.2.2.2.1 s.2.2.2.2.2.1 s.2.2.2.2.2.2 H) (fun (r0 : (AV × AV × AV × AV × AV × AV × AV) → AH → Prop) (a : TE) (H : AH) => (show codeP PP CC (subC (bodyC PP 19) [1, 1, 1, 0, 1, 0, 0]) (exP (fun (a : TE) (H : AH) => r0 (a 0, a 1, a 2, a 7, a 21, a 22, a 23) H) (m_means_Middlestttht_k K)) a H = codeP PP CC (subC (bodyC PP 19) [1, 1, 1, 0, 1, 0, 0]) (m_means_Middlesttthtb_k K r0) a H from by kernel_rfl).trans (m_means_Middlesttthtbl_eq K r0 a H)) a H
  h1.trans h2
theorem m_means_Middlestttht_eq (K : AV → AH → Prop) (a : TE) (H : AH) : codeP PP CC (subC (bodyC PP 19) [1, 1, 1, 0, 1]) (m_means_Middlesttt_k K) a H = m_means_Middlesttthtb K (a 0) (a 1) (a 2) (a 7) (a 21) (a 22) (a 23) H :=
  have h1 : codeP PP CC (subC (bodyC PP 19) [1, 1, 1, 0, 1]) (m_means_Middlesttt_k K) a H = codeP PP CC (subC (bodyC PP 19) [1, 1, 1, 0, 1, 0]) (m_means_Middlestttht_k K) a H := by kernel_rfl
  h1.trans (m_means_Middlesttthtb_eq K a H)
abbrev m_means_Middlesttth_k (K : AV → AH → Prop) : KP := exP (fun (a : TE) (H : AH) => m_means_Middlesttthtb K (a 0) (a 1) (a 2) (a 7) (a 21) (a 22) (a 23) H) (m_means_Middlesttt_k K)
def m_means_Middlesttth (K : AV → AH → Prop) (x0 x1 x2 x7 : AV) (H : AH) : Prop :=
  outP CC H (w_len PP 58 H x2) fun v1 H1 =>
  m_means_Middlesttthtb K x0 x1 x2 x7 x2 v1 (.int .i64 0) H1
theorem m_means_Middlesttth_eq (K : AV → AH → Prop) (a : TE) (H : AH) : codeP PP CC (subC (bodyC PP 19) [1, 1, 1, 0]) (m_means_Middlesttt_k K) a H = m_means_Middlesttth K (a 0) (a 1) (a 2) (a 7) H :=
  have h1 : codeP PP CC (subC (bodyC PP 19) [1, 1, 1, 0]) (m_means_Middlesttt_k K) a H = codeP PP CC (subC (bodyC PP 19) [1, 1, 1, 0, 0]) (exP (codeP PP CC (subC (bodyC PP 19) [1, 1, 1, 0, 1]) (m_means_Middlesttt_k K)) (m_means_Middlesttt_k K)) a H := by kernel_rfl
  have h2 : codeP PP CC (subC (bodyC PP 19) [1, 1, 1, 0, 0]) (exP (codeP PP CC (subC (bodyC PP 19) [1, 1, 1, 0, 1]) (m_means_Middlesttt_k K)) (m_means_Middlesttt_k K)) a H = codeP PP CC (subC (bodyC PP 19) [1, 1, 1, 0, 0]) (exP (fun (a : TE) (H : AH) => m_means_Middlesttthtb K (a 0) (a 1) (a 2) (a 7) (a 21) (a 22) (a 23) H) (m_means_Middlesttt_k K)) a H := congrArg (fun k : KE => codeP PP CC (subC (bodyC PP 19) [1, 1, 1, 0, 0]) (exP k (m_means_Middlesttt_k K)) a H) (funext fun a => funext fun H => m_means_Middlestttht_eq K a H)
  have h2b : codeP PP CC (subC (bodyC PP 19) [1, 1, 1, 0, 0]) (exP (fun (a : TE) (H : AH) => m_means_Middlesttthtb K (a 0) (a 1) (a 2) (a 7) (a 21) (a 22) (a 23) H) (m_means_Middlesttt_k K)) a H = codeP PP CC (subC (bodyC PP 19) [1, 1, 1, 0, 0]) (m_means_Middlesttth_k K) a H := by kernel_rfl
  have h3 : codeP PP CC (subC (bodyC PP 19) [1, 1, 1, 0, 0]) (m_means_Middlesttth_k K) a H = m_means_Middlesttth K (a 0) (a 1) (a 2) (a 7) H := by kernel_rfl
  ((h1.trans h2).trans h2b).trans h3
theorem m_means_Middlesttt_eq (K : AV → AH → Prop) (a : TE) (H : AH) : codeP PP CC (subC (bodyC PP 19) [1, 1, 1]) (m_means_Middles_K K) a H = m_means_Middlesttth K (a 0) (a 1) (a 2) (a 7) H :=
  have h1 : codeP PP CC (subC (bodyC PP 19) [1, 1, 1]) (m_means_Middles_K K) a H = codeP PP CC (subC (bodyC PP 19) [1, 1, 1, 0]) (exP (codeP PP CC (subC (bodyC PP 19) [1, 1, 1, 1]) (m_means_Middles_K K)) (m_means_Middles_K K)) a H := by kernel_rfl
  have h2 : codeP PP CC (subC (bodyC PP 19) [1, 1, 1, 0]) (exP (codeP PP CC (subC (bodyC PP 19) [1, 1, 1, 1]) (m_means_Middles_K K)) (m_means_Middles_K K)) a H = codeP PP CC (subC (bodyC PP 19) [1, 1, 1, 0]) (exP (fun (a : TE) (H : AH) => m_means_Middlestttth K (a 1) (a 2) (a 7) H) (m_means_Middles_K K)) a H := congrArg (fun k : KE => codeP PP CC (subC (bodyC PP 19) [1, 1, 1, 0]) (exP k (m_means_Middles_K K)) a H) (funext fun a => funext fun H => m_means_Middlestttt_eq K a H)
  have h2b : codeP PP CC (subC (bodyC PP 19) [1, 1, 1, 0]) (exP (fun (a : TE) (H : AH) => m_means_Middlestttth K (a 1) (a 2) (a 7) H) (m_means_Middles_K K)) a H = codeP PP CC (subC (bodyC PP 19) [1, 1, 1, 0]) (m_means_Middlesttt_k K) a H := by kernel_rfl
  ((h1.trans h2).trans h2b).trans (m_means_Middlesttth_eq K a H)
abbrev m_means_Middlestt_k (K : AV → AH → Prop) : KP := exP (fun (a : TE) (H : AH) => m_means_Middlesttth K (a 0) (a 1) (a 2) (a 7) H) (m_means_Middles_K K)
def m_means_Middlestt (K : AV → AH → Prop) (x0 x1 x2 : AV) (H : AH) : Prop :=
  m_means_Middlesttth K x0 x1 x2 (.slice none 0 0 true) H
theorem m_means_Middlestt_eq (K : AV → AH → Prop) (a : TE) (H : AH) : codeP PP CC (subC (bodyC PP 19) [1, 1]) (m_means_Middles_K K) a H = m_means_Middlestt K (a 0) (a 1) (a 2) H :=
  have h1 : codeP PP CC (subC (bodyC PP 19) [1, 1]) (m_means_Middles_K K) a H = codeP PP CC (subC (bodyC PP 19) [1, 1, 0]) (exP (codeP PP CC (subC (bodyC PP 19) [1, 1, 1]) (m_means_Middles_K K)) (m_means_Middles_K K)) a H := by kernel_rfl
  have h2 : codeP PP CC (subC (bodyC PP 19) [1, 1, 0]) (exP (codeP PP CC (subC (bodyC PP 19) [1, 1, 1]) (m_means_Middles_K K)) (m_means_Middles_K K)) a H = codeP PP CC (subC (bodyC PP 19) [1, 1, 0]) (exP (fun (a : TE) (H : AH) => m_means_Middlesttth K (a 0) (a 1) (a 2) (a 7) H) (m_means_Middles_K K)) a H := congrArg (fun k : KE => codeP PP CC (subC (bodyC PP 19) [1, 1, 0]) (exP k (m_means_Middles_K K)) a H) (funext fun a => funext fun H => m_means_Middlesttt_eq K a H)
  have h2b : codeP PP CC (subC (bodyC PP 19) [1, 1, 0]) (exP (fun (a : TE) (H : AH) => m_means_Middlesttth K (a 0) (a 1) (a 2) (a 7) H) (m_means_Middles_K K)) a H = codeP PP CC (subC (bodyC PP 19) [1, 1, 0]) (m_means_Middlestt_k K) a H := by kernel_rfl
  have h3 : codeP PP CC (subC (bodyC PP 19) [1, 1, 0]) (m_means_Middlestt_k K) a H = m_means_Middlestt K (a 0) (a 1) (a 2) H := by kernel_rfl
  ((h1.trans h2).trans h2b).trans h3
abbrev m_means_Middlest_k (K : AV → AH → Prop) : KP := exP (fun (a : TE) (H : AH) => m_means_Middlestt K (a 0) (a 1) (a 2) H) (m_means_Middles_K K)
def m_means_Middlest (K : AV → AH → Prop) (x0 x1 x2 : AV) (H : AH) : Prop :=
  outP CC H (w_max2 H x0 (.int .i64 1)) fun v1 H1 =>
  outP CC H1 (w_min2 H1 v1 (.int .i64 16)) fun v2 H2 =>
  outP CC H2 (w_max2 H2 x1 (.int .i64 0)) fun v3 H3 =>
  outP CC H3 (w_min2 H3 v3 (.int .i64 10)) fun v4 H4 =>
  m_means_Middlestt K v2 v4 x2 H4
theorem m_means_Middlest_eq (K : AV → AH → Prop) (a : TE) (H : AH) : codeP PP CC (subC (bodyC PP 19) [1]) (m_means_Middles_K K) a H = m_means_Middlest K (a 0) (a 1) (a 2) H :=
  have h1 : codeP PP CC (subC (bodyC PP 19) [1]) (m_means_Middles_K K) a H = codeP PP CC (subC (bodyC PP 19) [1, 0]) (exP (codeP PP CC (subC (bodyC PP 19) [1, 1]) (m_means_Middles_K K)) (m_means_Middles_K K)) a H := by kernel_rfl
  have h2 : codeP PP CC (subC (bodyC PP 19) [1, 0]) (exP (codeP PP CC (subC (bodyC PP 19) [1, 1]) (m_means_Middles_K K)) (m_means_Middles_K K)) a H = codeP PP CC (subC (bodyC PP 19) [1, 0]) (exP (fun (a : TE) (H : AH) => m_means_Middlestt K (a 0) (a 1) (a 2) H) (m_means_Middles_K K)) a H := congrArg (fun k : KE => codeP PP CC (subC (bodyC PP 19) [1, 0]) (exP k (m_means_Middles_K K)) a H) (funext fun a => funext fun H => m_means_Middlestt_eq K a H)
  have h2b : codeP PP CC (subC (bodyC PP 19) [1, 0]) (exP (fun (a : TE) (H : AH) => m_means_Middlestt K (a 0) (a 1) (a 2) H) (m_means_Middles_K K)) a H = codeP PP CC (subC (bodyC PP 19) [1, 0]) (m_means_Middlest_k K) a H := by kernel_rfl
  have h3 : codeP PP CC (subC (bodyC PP 19) [1, 0]) (m_means_Middlest_k K) a H = m_means_Middlest K (a 0) (a 1) (a 2) H := by kernel_rfl
  ((h1.trans h2).trans h2b).trans h3
abbrev m_means_Middles_k (K : AV → AH → Prop) : KP := exP (fun (a : TE) (H : AH) => m_means_Middlest K (a 0) (a 1) (a 2) H) (m_means_Middles_K K)
def m_means_Middles (K : AV → AH → Prop) (x0 x1 x2 : AV) (H : AH) : Prop :=
  m_means_Middlest K x0 x1 x2 H
theorem m_means_Middles_eq (K : AV → AH → Prop) (a : TE) (H : AH) : codeP PP CC (subC (bodyC PP 19) []) (m_means_Middles_K K) a H = m_means_Middles K (a 0) (a 1) (a 2) H :=
  have h1 : codeP PP CC (subC (bodyC PP 19) []) (m_means_Middles_K K) a H = codeP PP CC (subC (bodyC PP 19) [0]) (exP (codeP PP CC (subC (bodyC PP 19) [1]) (m_means_Middles_K K)) (m_means_Middles_K K)) a H := by kernel_rfl
  have h2 : codeP PP CC (subC (bodyC PP 19) [0]) (exP (codeP PP CC (subC (bodyC PP 19) [1]) (m_means_Middles_K K)) (m_means_Middles_K K)) a H = codeP PP CC (subC (bodyC PP 19) [0]) (exP (fun (a : TE) (H : AH) => m_means_Middlest K (a 0) (a 1) (a 2) H) (m_means_Middles_K K)) a H := congrArg (fun k : KE => codeP PP CC (subC (bodyC PP 19) [0]) (exP k (m_means_Middles_K K)) a H) (funext fun a => funext fun H => m_means_Middlest_eq K a H)
  have h2b : codeP PP CC (subC (bodyC PP 19) [0]) (exP (fun (a : TE) (H : AH) => m_means_Middlest K (a 0) (a 1) (a 2) H) (m_means_Middles_K K)) a H = codeP PP CC (subC (bodyC PP 19) [0]) (m_means_Middles_k K) a H := by kernel_rfl
  have h3 : codeP PP CC (subC (bodyC PP 19) [0]) (m_means_Middles_k K) a H = m_means_Middles K (a 0) (a 1) (a 2) H := by kernel_rfl
  ((h1.trans h2).trans h2b).trans h3
theorem m_means_Middles_ok (x0 x1 x2 : AV) (H : AH) (K : AV → AH → Prop) (h : m_means_Middles K x0 x1 x2 H) : CC.call 19 [x0, x1, x2] H K :=
  have h1 : funP PP CC 19 [x0, x1, x2] H K = codeP PP CC (subC (bodyC PP 19) []) (m_means_Middles_K K) (argE [x0, x1, x2]) H := by kernel_rfl
  have h2 : m_means_Middles K (argE [x0, x1, x2] 0) (argE [x0, x1, x2] 1) (argE [x0, x1, x2] 2) H = m_means_Middles K x0 x1 x2 H := by kernel_rfl
  funP_ok (P := PP) (by kernel_rfl) (by kernel_rfl) ((h1.trans ((m_means_Middles_eq K (argE [x0, x1, x2]) H).trans h2)).mpr h)

/-! 44: slices.ContainsFunc[[]fieldfare/api.Vec,fieldfare/api.Vec] -/
abbrev m_slices_ContainsFunc_api_Vec_api_Vec_K (K : AV → AH → Prop) : KP := finP PP (resC PP 44) K
def m_slices_ContainsFunc_api_Vec_api_Vec (K : AV → AH → Prop) (x0 x1 : AV) (H : AH) : Prop :=
  outP CC H (some (.enter 60 [x0, x1])) fun v1 H1 =>
  outP CC H1 (w_int .geq H1 v1 (.int .i64 0)) fun v2 H2 =>
  K v2 H2
theorem m_slices_ContainsFunc_api_Vec_api_Vec_eq (K : AV → AH → Prop) (a : TE) (H : AH) : codeP PP CC (subC (bodyC PP 44) []) (m_slices_ContainsFunc_api_Vec_api_Vec_K K) a H = m_slices_ContainsFunc_api_Vec_api_Vec K (a 0) (a 1) H :=
  by kernel_rfl
theorem m_slices_ContainsFunc_api_Vec_api_Vec_ok (x0 x1 : AV) (H : AH) (K : AV → AH → Prop) (h : m_slices_ContainsFunc_api_Vec_api_Vec K x0 x1 H) : CC.call 44 [x0, x1] H K :=
  have h1 : funP PP CC 44 [x0, x1] H K = codeP PP CC (subC (bodyC PP 44) []) (m_slices_ContainsFunc_api_Vec_api_Vec_K K) (argE [x0, x1]) H := by kernel_rfl
  have h2 : m_slices_ContainsFunc_api_Vec_api_Vec K (argE [x0, x1] 0) (argE [x0, x1] 1) H = m_slices_ContainsFunc_api_Vec_api_Vec K x0 x1 H := by kernel_rfl
  funP_ok (P := PP) (by kernel_rfl) (by kernel_rfl) ((h1.trans ((m_slices_ContainsFunc_api_Vec_api_Vec_eq K (argE [x0, x1]) H).trans h2)).mpr h)

/-! 45: fieldfare/means.Middles$1 -/
abbrev m_means_Middles_1_K (K : AV → AH → Prop) : KP := finP PP (resC PP 45) K
def m_means_Middles_1 (K : AV → AH → Prop) (x0 x1 : AV) (H : AH) : Prop :=
  outP CC H (w_load none H x1) fun v1 H1 =>
  outP CC H1 (some (.enter 46 [x0, v1])) fun v2 H2 =>
  K v2 H2
theorem m_means_Middles_1_eq (K : AV → AH → Prop) (a : TE) (H : AH) : codeP PP CC (subC (bodyC PP 45) []) (m_means_Middles_1_K K) a H = m_means_Middles_1 K (a 0) (a 1) H :=
  by kernel_rfl
theorem m_means_Middles_1_ok (x0 x1 : AV) (H : AH) (K : AV → AH → Prop) (h : m_means_Middles_1 K x0 x1 H) : CC.call 45 [x0, x1] H K :=
  have h1 : funP PP CC 45 [x0, x1] H K = codeP PP CC (subC (bodyC PP 45) []) (m_means_Middles_1_K K) (argE [x0, x1]) H := by kernel_rfl
  have h2 : m_means_Middles_1 K (argE [x0, x1] 0) (argE [x0, x1] 1) H = m_means_Middles_1 K x0 x1 H := by kernel_rfl
  funP_ok (P := PP) (by kernel_rfl) (by kernel_rfl) ((h1.trans ((m_means_Middles_1_eq K (argE [x0, x1]) H).trans h2)).mpr h)

/-! 60: slices.IndexFunc[[]fieldfare/api.Vec,fieldfare/api.Vec] -/
abbrev m_slices_IndexFunc_api_Vec_api_Vec_K (K : AV → AH → Prop) : KP := finP PP (resC PP 60) K
abbrev m_slices_IndexFunc_api_Vec_api_Vect_k (K : AV → AH → Prop) : KP := exP (codeP PP CC (subC (bodyC PP 60) [1, 1]) (m_slices_IndexFunc_api_Vec_api_Vec_K K)) (m_slices_IndexFunc_api_Vec_api_Vec_K K)
abbrev m_slices_IndexFunc_api_Vec_api_Vectht_k (K : AV → AH → Prop) : KP := blockP 0 (m_slices_IndexFunc_api_Vec_api_Vect_k K)
abbrev m_slices_IndexFunc_api_Vec_api_Vecthtb_k (K : AV → AH → Prop) (r0 : (AV × AV × AV × AV) → AH → Prop) : KP := exP (fun (a : TE) (H : AH) => r0 (a 0, a 1, a 7, a 8) H) (m_slices_IndexFunc_api_Vec_api_Vectht_k K)
def m_slices_IndexFunc_api_Vec_api_Vecthtbl (K : AV → AH → Prop) (r0 : (AV × AV × AV × AV) → AH → Prop) (x0 x1 x7 x8 : AV) (H : AH) : Prop :=
  outP CC H (w_int .lss H x8 x7) fun v1 H1 =>
  condP v1
  (outP CC H1 (w_indexAddr (.sl 1) H1 x0 x8) fun v2 H2 =>
  outP CC H2 (w_load none H2 v2) fun v3 H3 =>
  outP CC H3 (callV [v3] x1) fun v4 H4 =>
  condP v4
  (K x8 H4)
  (outP CC H4 (w_int .add H4 x8 (.int .i64 1)) fun v5 H5 =>
  r0 (x0, x1, x7, v5) H5))
  (K (.int .i64 (-1)) H1)
theorem m_slices_IndexFunc_api_Vec_api_Vecthtbl_eq (K : AV → AH → Prop) (r0 : (AV × AV × AV × AV) → AH → Prop) (a : TE) (H : AH) : codeP PP CC (subC (bodyC PP 60) [1, 0, 1, 0, 0]) (m_slices_IndexFunc_api_Vec_api_Vecthtb_k K r0) a H = m_slices_IndexFunc_api_Vec_api_Vecthtbl K r0 (a 0) (a 1) (a 7) (a 8) H :=
  by kernel_rfl
def m_slices_IndexFunc_api_Vec_api_Vecthtb (K : AV → AH → Prop) (x0 x1 x7 x8 : AV) (H : AH) : Prop :=
  loopP (fun (r0 : (AV × AV × AV × AV) → AH → Prop) (s : (AV × AV × AV × AV)) (H : AH) => m_slices_IndexFunc_api_Vec_api_Vecthtbl K r0 s.1 s.2.1 s.2.2.1 s.2.2.2 H) (x0, x1, x7, x8) H
theorem m_slices_IndexFunc_api_Vec_api_Vecthtb_eq (K : AV → AH → Prop) (a : TE) (H : AH) : codeP PP CC (subC (bodyC PP 60) [1, 0, 1, 0]) (m_slices_IndexFunc_api_Vec_api_Vectht_k K) a H = m_slices_IndexFunc_api_Vec_api_Vecthtb K (a 0) (a 1) (a 7) (a 8) H :=
  have h1 : codeP PP CC (subC (bodyC PP 60) [1, 0, 1, 0]) (m_slices_IndexFunc_api_Vec_api_Vectht_k K) a H = loopP (fun (rec : KE) => codeP PP CC (subC (bodyC PP 60) [1, 0, 1, 0, 0]) (exP rec (m_slices_IndexFunc_api_Vec_api_Vectht_k K))) a H := by kernel_rfl
  have h2 := loopP_iso (F := fun (rec : KE) => codeP PP CC (subC (bodyC PP 60) [1, 0, 1, 0, 0]) (exP rec (m_slices_IndexFunc_api_Vec_api_Vectht_k K))) (S := (AV × AV × AV × AV)) (fun a => (a 0, a 1, a 7, a 8)) (fun (r0 : (AV × AV × AV × AV) → AH → Prop) (s : (AV × AV × AV × AV)) (H : AH) => m_slices_IndexFunc_api_Vec_api_Vecthtbl K r0 s.1 s.2.1 s.2.2.1 s.2.2.2 H) (fun (r0 : (AV × AV × AV × AV) → AH → Prop) (a : TE) (H : AH) => (show codeP PP CC (subC (bodyC PP 60) [1, 0, 1, 0, 0]) (exP (fun (a : TE) (H : AH) => r0 (a 0, a 1, a 7, a 8) H) (m_slices_IndexFunc_api_Vec_api_Vectht_k K)) a H = codeP PP CC (subC (bodyC PP 60) [1, 0, 1, 0, 0]) (m_slices_IndexFunc_api_Vec_api_Vecthtb_k K r0) a H from by kernel_rfl).trans (m_slices_IndexFunc_api_Vec_api_Vecthtbl_eq K r0 a H)) a H
  h1.trans h2
theorem m_slices_IndexFunc_api_Vec_api_Vectht_eq (K : AV → AH → Prop) (a : TE) (H : AH) : codeP PP CC (subC (bodyC PP 60) [1, 0, 1]) (m_slices_IndexFunc_api_Vec_api_Vect_k K) a H = m_slices_IndexFunc_api_Vec_api_Vecthtb K (a 0) (a 1) (a 7) (a 8) H :=
  have h1 : codeP PP CC (subC (bodyC PP 60) [1, 0, 1]) (m_slices_IndexFunc_api_Vec_api_Vect_k K) a H = codeP PP CC (subC (bodyC PP 60) [1, 0, 1, 0]) (m_slices_IndexFunc_api_Vec_api_Vectht_k K) a H := by kernel_rfl
  h1.trans (m_slices_IndexFunc_api_Vec_api_Vecthtb_eq K a H)
abbrev m_slices_IndexFunc_api_Vec_api_Vecth_k (K : AV → AH → Prop) : KP := exP (fun (a : TE) (H : AH) => m_slices_IndexFunc_api_Vec_api_Vecthtb K (a 0) (a 1) (a 7) (a 8) H) (m_slices_IndexFunc_api_Vec_api_Vect_k K)
def m_slices_IndexFunc_api_Vec_api_Vecth (K : AV → AH → Prop) (x0 x1 : AV) (H : AH) : Prop :=
  outP CC H (w_len PP 58 H x0) fun v1 H1 =>
  m_slices_IndexFunc_api_Vec_api_Vecthtb K x0 x1 v1 (.int .i64 0) H1
theorem m_slices_IndexFunc_api_Vec_api_Vecth_eq (K : AV → AH → Prop) (a : TE) (H : AH) : codeP PP CC (subC (bodyC PP 60) [1, 0]) (m_slices_IndexFunc_api_Vec_api_Vect_k K) a H = m_slices_IndexFunc_api_Vec_api_Vecth K (a 0) (a 1) H :=
  have h1 : codeP PP CC (subC (bodyC PP 60) [1, 0]) (m_slices_IndexFunc_api_Vec_api_Vect_k K) a H = codeP PP CC (subC (bodyC PP 60) [1, 0, 0]) (exP (codeP PP CC (subC (bodyC PP 60) [1, 0, 1]) (m_slices_IndexFunc_api_Vec_api_Vect_k K)) (m_slices_IndexFunc_api_Vec_api_Vect_k K)) a H := by kernel_rfl
  have h2 : codeP PP CC (subC (bodyC PP 60) [1, 0, 0]) (exP (codeP PP CC (subC (bodyC PP 60) [1, 0, 1]) (m_slices_IndexFunc_api_Vec_api_Vect_k K)) (m_slices_IndexFunc_api_Vec_api_Vect_k K)) a H = codeP PP CC (subC (bodyC PP 60) [1, 0, 0]) (exP (fun (a : TE) (H : AH) => m_slices_IndexFunc_api_Vec_api_Vecthtb K (a 0) (a 1) (a 7) (a 8) H) (m_slices_IndexFunc_api_Vec_api_Vect_k K)) a H := congrArg (fun k : KE => codeP PP CC (subC (bodyC PP 60) [1, 0, 0]) (exP k (m_slices_IndexFunc_api_Vec_api_Vect_k K)) a H) (funext fun a => funext fun H => m_slices_IndexFunc_api_Vec_api_Vectht_eq K a H)
  have h2b : codeP PP CC (subC (bodyC PP 60) [1, 0, 0]) (exP (fun (a : TE) (H : AH) => m_slices_IndexFunc_api_Vec_api_Vecthtb K (a 0) (a 1) (a 7) (a 8) H) (m_slices_IndexFunc_api_Vec_api_Vect_k K)) a H = codeP PP CC (subC (bodyC PP 60) [1, 0, 0]) (m_slices_IndexFunc_api_Vec_api_Vecth_k K) a H := by kernel_rfl
  have h3 : codeP PP CC (subC (bodyC PP 60) [1, 0, 0]) (m_slices_IndexFunc_api_Vec_api_Vecth_k K) a H = m_slices_IndexFunc_api_Vec_api_Vecth K (a 0) (a 1) H := by kernel_rfl
  ((h1.trans h2).trans h2b).trans h3
theorem m_slices_IndexFunc_api_Vec_api_Vect_eq (K : AV → AH → Prop) (a : TE) (H : AH) : codeP PP CC (subC (bodyC PP 60) [1]) (m_slices_IndexFunc_api_Vec_api_Vec_K K) a H = m_slices_IndexFunc_api_Vec_api_Vecth K (a 0) (a 1) H :=
  have h1 : codeP PP CC (subC (bodyC PP 60) [1]) (m_slices_IndexFunc_api_Vec_api_Vec_K K) a H = codeP PP CC (subC (bodyC PP 60) [1, 0]) (m_slices_IndexFunc_api_Vec_api_Vect_k K) a H := by kernel_rfl
  h1.trans (m_slices_IndexFunc_api_Vec_api_Vecth_eq K a H)
abbrev m_slices_IndexFunc_api_Vec_api_Vec_k (K : AV → AH → Prop) : KP := exP (fun (a : TE) (H : AH) => m_slices_IndexFunc_api_Vec_api_Vecth K (a 0) (a 1) H) (m_slices_IndexFunc_api_Vec_api_Vec_K K)
def m_slices_IndexFunc_api_Vec_api_Vec (K : AV → AH → Prop) (x0 x1 : AV) (H : AH) : Prop :=
  m_slices_IndexFunc_api_Vec_api_Vecth K x0 x1 H
theorem m_slices_IndexFunc_api_Vec_api_Vec_eq (K : AV → AH → Prop) (a : TE) (H : AH) : codeP PP CC (subC (bodyC PP 60) []) (m_slices_IndexFunc_api_Vec_api_Vec_K K) a H = m_slices_IndexFunc_api_Vec_api_Vec K (a 0) (a 1) H :=
  have h1 : codeP PP CC (subC (bodyC PP 60) []) (m_slices_IndexFunc_api_Vec_api_Vec_K K) a H = codeP PP CC (subC (bodyC PP 60) [0]) (exP (codeP PP CC (subC (bodyC PP 60) [1]) (m_slices_IndexFunc_api_Vec_api_Vec_K K)) (m_slices_IndexFunc_api_Vec_api_Vec_K K)) a H := by kernel_rfl
  have h2 : codeP PP CC (subC (bodyC PP 60) [0]) (exP (codeP PP CC (subC (bodyC PP 60) [1]) (m_slices_IndexFunc_api_Vec_api_Vec_K K)) (m_slices_IndexFunc_api_Vec_api_Vec_K K)) a H = codeP PP CC (subC (bodyC PP 60) [0]) (exP (fun (a : TE) (H : AH) => m_slices_IndexFunc_api_Vec_api_Vecth K (a 0) (a 1) H) (m_slices_IndexFunc_api_Vec_api_Vec_K K)) a H := congrArg (fun k : KE => codeP PP CC (subC (bodyC PP 60) [0]) (exP k (m_slices_IndexFunc_api_Vec_api_Vec_K K)) a H) (funext fun a => funext fun H => m_slices_IndexFunc_api_Vec_api_Vect_eq K a H)
  have h2b : codeP PP CC (subC (bodyC PP 60) [0]) (exP (fun (a : TE) (H : AH) => m_slices_IndexFunc_api_Vec_api_Vecth K (a 0) (a 1) H) (m_slices_IndexFunc_api_Vec_api_Vec_K K)) a H = codeP PP CC (subC (bodyC PP 60) [0]) (m_slices_IndexFunc_api_Vec_api_Vec_k K) a H := by kernel_rfl
  have h3 : codeP PP CC (subC (bodyC PP 60) [0]) (m_slices_IndexFunc_api_Vec_api_Vec_k K) a H = m_slices_IndexFunc_api_Vec_api_Vec K (a 0) (a 1) H := by kernel_rfl
  ((h1.trans h2).trans h2b).trans h3
theorem m_slices_IndexFunc_api_Vec_api_Vec_ok (x0 x1 : AV) (H : AH) (K : AV → AH → Prop) (h : m_slices_IndexFunc_api_Vec_api_Vec K x0 x1 H) : CC.call 60 [x0, x1] H K :=
  have h1 : funP PP CC 60 [x0, x1] H K = codeP PP CC (subC (bodyC PP 60) []) (m_slices_IndexFunc_api_Vec_api_Vec_K K) (argE [x0, x1]) H := by kernel_rfl
  have h2 : m_slices_IndexFunc_api_Vec_api_Vec K (argE [x0, x1] 0) (argE [x0, x1] 1) H = m_slices_IndexFunc_api_Vec_api_Vec K x0 x1 H := by kernel_rfl
  funP_ok (P := PP) (by kernel_rfl) (by kernel_rfl) ((h1.trans ((m_slices_IndexFunc_api_Vec_api_Vec_eq K (argE [x0, x1]) H).trans h2)).mpr h)

end
end Go.Ab
