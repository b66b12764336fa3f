/- What functions do, said as what the evaluator does. Printed by a program. -/
import Derived.Test.YtjpjmeidpjjgdaaGreatDoorBeg
import Derived.Test.YtjpjmeidpjjgdaaGreatDoorEv3
namespace Go.Ab
noncomputable section
open Go.Proofs
set_option maxRecDepth 100000



/-! 9: fieldfare/fieldfarelaw7.MeansOne -/
abbrev m_fieldfarelaw7_MeansOne_K (K : AV → AH → Prop) : KP := finP PP (resC PP 9) K
abbrev m_fieldfarelaw7_MeansOnetttttttt_k (K : AV → AH → Prop) : KP := exP (codeP PP CC (subC (bodyC PP 9) [1, 1, 1, 1, 1, 1, 1, 1, 1]) (m_fieldfarelaw7_MeansOne_K K)) (m_fieldfarelaw7_MeansOne_K K)
abbrev m_fieldfarelaw7_MeansOnettttttttht_k (K : AV → AH → Prop) : KP := blockP 0 (m_fieldfarelaw7_MeansOnetttttttt_k K)
abbrev m_fieldfarelaw7_MeansOnetttttttthtb_k (K : AV → AH → Prop) (r0 : (AV × AV × AV) → AH → Prop) : KP := exP (fun (a : TE) (H : AH) => r0 (a 6, a 7, a 8) H) (m_fieldfarelaw7_MeansOnettttttttht_k K)
abbrev m_fieldfarelaw7_MeansOnetttttttthtblt_k (K : AV → AH → Prop) (r0 : (AV × AV × AV) → AH → Prop) : KP := exP (codeP PP CC (subC (bodyC PP 9) [1, 1, 1, 1, 1, 1, 1, 1, 0, 1, 0, 0, 1, 1]) (m_fieldfarelaw7_MeansOnetttttttthtb_k K r0)) (m_fieldfarelaw7_MeansOnetttttttthtb_k K r0)
abbrev m_fieldfarelaw7_MeansOnetttttttthtblth_k (K : AV → AH → Prop) (r0 : (AV × AV × AV) → AH → Prop) : KP := blockP 1 (m_fieldfarelaw7_MeansOnetttttttthtblt_k K r0)
abbrev m_fieldfarelaw7_MeansOnetttttttthtblthbt_k (K : AV → AH → Prop) (r0 : (AV × AV × AV) → AH → Prop) : KP := exP (codeP PP CC (subC (bodyC PP 9) [1, 1, 1, 1, 1, 1, 1, 1, 0, 1, 0, 0, 1, 0, 0, 1, 1]) (m_fieldfarelaw7_MeansOnetttttttthtblth_k K r0)) (m_fieldfarelaw7_MeansOnetttttttthtblth_k K r0)
abbrev m_fieldfarelaw7_MeansOnetttttttthtblthbtht_k (K : AV → AH → Prop) (r0 : (AV × AV × AV) → AH → Prop) : KP := blockP 2 (m_fieldfarelaw7_MeansOnetttttttthtblthbt_k K r0)
abbrev m_fieldfarelaw7_MeansOnetttttttthtblthbthtb_k (K : AV → AH → Prop) (r0 : (AV × AV × AV) → AH → Prop) (r1 : (AV × AV × AV × AV × AV × AV × AV) → AH → Prop) : KP := exP (fun (a : TE) (H : AH) => r1 (a 6, a 7, a 8, a 9, a 10, a 49, a 50) H) (m_fieldfarelaw7_MeansOnetttttttthtblthbtht_k K r0)
def m_fieldfarelaw7_MeansOnetttttttthtblthbthtbl (K : AV → AH → Prop) (r0 : (AV × AV × AV) → AH → Prop) (r1 : (AV × AV × AV × AV × AV × AV × AV) → AH → Prop) (x6 x7 x8 x9 x10 x49 x50 : AV) (H : AH) : Prop :=
  outP CC H (w_int .lss H x50 x49) fun v1 H1 =>
  condP v1
  (outP CC H1 (w_indexAddr (.sl 1) H1 x6 x50) fun v2 H2 =>
  outP CC H2 (w_load none H2 v2) fun v3 H3 =>
  outP CC H3 (w_indexAddr (.sl 1) H3 v3 x8) fun v4 H4 =>
  outP CC H4 (w_load none H4 v4) fun v5 H5 =>
  outP CC H5 (w_conv (.int .i64) H5 v5 none) fun v6 H6 =>
  outP CC H6 (w_int .add H6 x9 v6) fun v7 H7 =>
  outP CC H7 (w_int .add H7 x50 (.int .i64 1)) fun v8 H8 =>
  r1 (x6, x7, x8, v7, x10, x49, v8) H8)
  (outP CC H1 (w_indexAddr (.sl 1) H1 x7 (.int .i64 0)) fun v9 H9 =>
  outP CC H9 (w_load none H9 v9) fun v10 H10 =>
  outP CC H10 (w_indexAddr (.sl 1) H10 v10 x8) fun v11 H11 =>
  outP CC H11 (w_load none H11 v11) fun v12 H12 =>
  outP CC H12 (w_conv (.int .i64) H12 v12 none) fun v13 H13 =>
  outP CC H13 (w_int .mul H13 v13 x10) fun v14 H14 =>
  outP CC H14 (w_int .gtr H14 v14 x9) fun v15 H15 =>
  guardP (boolIs false v15) H15 (outP CC H15 (some (.val v13 H15))) fun v16 H16 =>
  guardP (boolIs false v15) H16 (outP CC H16 (w_int .add H16 v16 (.int .i64 1))) fun v17 H17 =>
  guardP (boolIs false v15) H17 (outP CC H17 (some (.val x10 H17))) fun v18 H18 =>
  guardP (boolIs false v15) H18 (outP CC H18 (w_int .mul H18 v17 v18)) fun v19 H19 =>
  guardP (boolIs false v15) H19 (outP CC H19 (some (.val x9 H19))) fun v20 H20 =>
  guardP (boolIs false v15) H20 (outP CC H20 (w_int .leq H20 v19 v20)) fun v21 H21 =>
  outP CC H21 (w_pick H21 v15 (.bool true) v21) fun v22 H22 =>
  condP v22
  (K (.bool false) H22)
  (outP CC H22 (w_int .add H22 x8 (.int .i64 1)) fun v23 H23 =>
  r0 (x6, x7, v23) H23))
theorem m_fieldfarelaw7_MeansOnetttttttthtblthbthtbl_eq (K : AV → AH → Prop) (r0 : (AV × AV × AV) → AH → Prop) (r1 : (AV × AV × AV × AV × AV × AV × AV) → AH → Prop) (a : TE) (H : AH) : codeP PP CC (subC (bodyC PP 9) [1, 1, 1, 1, 1, 1, 1, 1, 0, 1, 0, 0, 1, 0, 0, 1, 0, 1, 0, 0]) (m_fieldfarelaw7_MeansOnetttttttthtblthbthtb_k K r0 r1) a H = m_fieldfarelaw7_MeansOnetttttttthtblthbthtbl K r0 r1 (a 6) (a 7) (a 8) (a 9) (a 10) (a 49) (a 50) H :=
  by kernel_rfl
def m_fieldfarelaw7_MeansOnetttttttthtblthbthtb (K : AV → AH → Prop) (r0 : (AV × AV × AV) → AH → Prop) (x6 x7 x8 x9 x10 x49 x50 : AV) (H : AH) : Prop :=
  loopP (fun (r1 : (AV × AV × AV × AV × AV × AV × AV) → AH → Prop) (s : (AV × AV × AV × AV × AV × AV × AV)) (H : AH) => m_fieldfarelaw7_MeansOnetttttttthtblthbthtbl K r0 r1 s.1 s.2.1 s.2.2.1 s.2.2.2.1 s.2.2.2.2.1 s.2.2.2.2.2.1 s.2.2.2.2.2.2 H) (x6, x7, x8, x9, x10, x49, x50) H
theorem m_fieldfarelaw7_MeansOnetttttttthtblthbthtb_eq (K : AV → AH → Prop) (r0 : (AV × AV × AV) → AH → Prop) (a : TE) (H : AH) : codeP PP CC (subC (bodyC PP 9) [1, 1, 1, 1, 1, 1, 1, 1, 0, 1, 0, 0, 1, 0, 0, 1, 0, 1, 0]) (m_fieldfarelaw7_MeansOnetttttttthtblthbtht_k K r0) a H = m_fieldfarelaw7_MeansOnetttttttthtblthbthtb K r0 (a 6) (a 7) (a 8) (a 9) (a 10) (a 49) (a 50) H :=
  have h1 : codeP PP CC (subC (bodyC PP 9) [1, 1, 1, 1, 1, 1, 1, 1, 0, 1, 0, 0, 1, 0, 0, 1, 0, 1, 0]) (m_fieldfarelaw7_MeansOnetttttttthtblthbtht_k K r0) a H = loopP (fun (rec : KE) => codeP PP CC (subC (bodyC PP 9) [1, 1, 1, 1, 1, 1, 1, 1, 0, 1, 0, 0, 1, 0, 0, 1, 0, 1, 0, 0]) (exP rec (m_fieldfarelaw7_MeansOnetttttttthtblthbtht_k K r0))) a H := by kernel_rfl
  have h2 := loopP_iso (F := fun (rec : KE) => codeP PP CC (subC (bodyC PP 9) [1, 1, 1, 1, 1, 1, 1, 1, 0, 1, 0, 0, 1, 0, 0, 1, 0, 1, 0, 0]) (exP rec (m_fieldfarelaw7_MeansOnetttttttthtblthbtht_k K r0))) (S := (AV × AV × AV × AV × AV × AV × AV)) (fun a => (a 6, a 7, a 8, a 9, a 10, a 49, a 50)) (fun (r1 : (AV × AV × AV × AV × AV × AV × AV) → AH → Prop) (s : (AV × AV × AV × AV × AV × AV × AV)) (H : AH) => m_fieldfarelaw7_MeansOnetttttttthtblthbthtbl K r0 r1 s.1 s.2.1 s.2.2.1 s.2.2.2.1 s.2.2.2.2.1 s.2.2.2.2.2.1 s.2.2.2.2.2.2 H) (fun (r1 : (AV × AV × AV × AV × AV × AV × AV) → AH → Prop) (a : TE) (H : AH) => (show codeP PP CC (subC (bodyC PP 9) [1, 1, 1, 1, 1, 1, 1, 1, 0, 1, 0, 0, 1, 0, 0, 1, 0, 1, 0, 0]) (exP (fun (a : TE) (H : AH) => r1 (a 6, a 7, a 8, a 9, a 10, a 49, a 50) H) (m_fieldfarelaw7_MeansOnetttttttthtblthbtht_k K r0)) a H = codeP PP CC (subC (bodyC PP 9) [1, 1, 1, 1, 1, 1, 1, 1, 0, 1, 0, 0, 1, 0, 0, 1, 0, 1, 0, 0]) (m_fieldfarelaw7_MeansOnetttttttthtblthbthtb_k K r0 r1) a H from by kernel_rfl).trans (m_fieldfarelaw7_MeansOnetttttttthtblthbthtbl_eq K r0 r1 a H)) a H
  h1.trans h2
theorem m_fieldfarelaw7_MeansOnetttttttthtblthbtht_eq (K : AV → AH → Prop) (r0 : (AV × AV × AV) → AH → Prop) (a : TE) (H : AH) : codeP PP CC (subC (bodyC PP 9) [1, 1, 1, 1, 1, 1, 1, 1, 0, 1, 0, 0, 1, 0, 0, 1, 0, 1]) (m_fieldfarelaw7_MeansOnetttttttthtblthbt_k K r0) a H = m_fieldfarelaw7_MeansOnetttttttthtblthbthtb K r0 (a 6) (a 7) (a 8) (a 9) (a 10) (a 49) (a 50) H :=
  have h1 : codeP PP CC (subC (bodyC PP 9) [1, 1, 1, 1, 1, 1, 1, 1, 0, 1, 0, 0, 1, 0, 0, 1, 0, 1]) (m_fieldfarelaw7_MeansOnetttttttthtblthbt_k K r0) a H = codeP PP CC (subC (bodyC PP 9) [1, 1, 1, 1, 1, 1, 1, 1, 0, 1, 0, 0, 1, 0, 0, 1, 0, 1, 0]) (m_fieldfarelaw7_MeansOnetttttttthtblthbtht_k K r0) a H := by kernel_rfl
  h1.trans (m_fieldfarelaw7_MeansOnetttttttthtblthbthtb_eq K r0 a H)
abbrev m_fieldfarelaw7_MeansOnetttttttthtblthbth_k (K : AV → AH → Prop) (r0 : (AV × AV × AV) → AH → Prop) : KP := exP (fun (a : TE) (H : AH) => m_fieldfarelaw7_MeansOnetttttttthtblthbthtb K r0 (a 6) (a 7) (a 8) (a 9) (a 10) (a 49) (a 50) H) (m_fieldfarelaw7_MeansOnetttttttthtblthbt_k K r0)
def m_fieldfarelaw7_MeansOnetttttttthtblthbth (K : AV → AH → Prop) (r0 : (AV × AV × AV) → AH → Prop) (x6 x7 x8 x9 x10 : AV) (H : AH) : Prop :=
  outP CC H (w_len PP 36 H x6) fun v1 H1 =>
  m_fieldfarelaw7_MeansOnetttttttthtblthbthtb K r0 x6 x7 x8 x9 x10 v1 (.int .i64 0) H1
theorem m_fieldfarelaw7_MeansOnetttttttthtblthbth_eq (K : AV → AH → Prop) (r0 : (AV × AV × AV) → AH → Prop) (a : TE) (H : AH) : codeP PP CC (subC (bodyC PP 9) [1, 1, 1, 1, 1, 1, 1, 1, 0, 1, 0, 0, 1, 0, 0, 1, 0]) (m_fieldfarelaw7_MeansOnetttttttthtblthbt_k K r0) a H = m_fieldfarelaw7_MeansOnetttttttthtblthbth K r0 (a 6) (a 7) (a 8) (a 9) (a 10) H :=
  have h1 : codeP PP CC (subC (bodyC PP 9) [1, 1, 1, 1, 1, 1, 1, 1, 0, 1, 0, 0, 1, 0, 0, 1, 0]) (m_fieldfarelaw7_MeansOnetttttttthtblthbt_k K r0) a H = codeP PP CC (subC (bodyC PP 9) [1, 1, 1, 1, 1, 1, 1, 1, 0, 1, 0, 0, 1, 0, 0, 1, 0, 0]) (exP (codeP PP CC (subC (bodyC PP 9) [1, 1, 1, 1, 1, 1, 1, 1, 0, 1, 0, 0, 1, 0, 0, 1, 0, 1]) (m_fieldfarelaw7_MeansOnetttttttthtblthbt_k K r0)) (m_fieldfarelaw7_MeansOnetttttttthtblthbt_k K r0)) a H := by kernel_rfl
  have h2 : codeP PP CC (subC (bodyC PP 9) [1, 1, 1, 1, 1, 1, 1, 1, 0, 1, 0, 0, 1, 0, 0, 1, 0, 0]) (exP (codeP PP CC (subC (bodyC PP 9) [1, 1, 1, 1, 1, 1, 1, 1, 0, 1, 0, 0, 1, 0, 0, 1, 0, 1]) (m_fieldfarelaw7_MeansOnetttttttthtblthbt_k K r0)) (m_fieldfarelaw7_MeansOnetttttttthtblthbt_k K r0)) a H = codeP PP CC (subC (bodyC PP 9) [1, 1, 1, 1, 1, 1, 1, 1, 0, 1, 0, 0, 1, 0, 0, 1, 0, 0]) (exP (fun (a : TE) (H : AH) => m_fieldfarelaw7_MeansOnetttttttthtblthbthtb K r0 (a 6) (a 7) (a 8) (a 9) (a 10) (a 49) (a 50) H) (m_fieldfarelaw7_MeansOnetttttttthtblthbt_k K r0)) a H := congrArg (fun k : KE => codeP PP CC (subC (bodyC PP 9) [1, 1, 1, 1, 1, 1, 1, 1, 0, 1, 0, 0, 1, 0, 0, 1, 0, 0]) (exP k (m_fieldfarelaw7_MeansOnetttttttthtblthbt_k K r0)) a H) (funext fun a => funext fun H => m_fieldfarelaw7_MeansOnetttttttthtblthbtht_eq K r0 a H)
  have h2b : codeP PP CC (subC (bodyC PP 9) [1, 1, 1, 1, 1, 1, 1, 1, 0, 1, 0, 0, 1, 0, 0, 1, 0, 0]) (exP (fun (a : TE) (H : AH) => m_fieldfarelaw7_MeansOnetttttttthtblthbthtb K r0 (a 6) (a 7) (a 8) (a 9) (a 10) (a 49) (a 50) H) (m_fieldfarelaw7_MeansOnetttttttthtblthbt_k K r0)) a H = codeP PP CC (subC (bodyC PP 9) [1, 1, 1, 1, 1, 1, 1, 1, 0, 1, 0, 0, 1, 0, 0, 1, 0, 0]) (m_fieldfarelaw7_MeansOnetttttttthtblthbth_k K r0) a H := by kernel_rfl
  have h3 : codeP PP CC (subC (bodyC PP 9) [1, 1, 1, 1, 1, 1, 1, 1, 0, 1, 0, 0, 1, 0, 0, 1, 0, 0]) (m_fieldfarelaw7_MeansOnetttttttthtblthbth_k K r0) a H = m_fieldfarelaw7_MeansOnetttttttthtblthbth K r0 (a 6) (a 7) (a 8) (a 9) (a 10) H := by kernel_rfl
  ((h1.trans h2).trans h2b).trans h3
theorem m_fieldfarelaw7_MeansOnetttttttthtblthbt_eq (K : AV → AH → Prop) (r0 : (AV × AV × AV) → AH → Prop) (a : TE) (H : AH) : codeP PP CC (subC (bodyC PP 9) [1, 1, 1, 1, 1, 1, 1, 1, 0, 1, 0, 0, 1, 0, 0, 1]) (m_fieldfarelaw7_MeansOnetttttttthtblth_k K r0) a H = m_fieldfarelaw7_MeansOnetttttttthtblthbth K r0 (a 6) (a 7) (a 8) (a 9) (a 10) H :=
  have h1 : codeP PP CC (subC (bodyC PP 9) [1, 1, 1, 1, 1, 1, 1, 1, 0, 1, 0, 0, 1, 0, 0, 1]) (m_fieldfarelaw7_MeansOnetttttttthtblth_k K r0) a H = codeP PP CC (subC (bodyC PP 9) [1, 1, 1, 1, 1, 1, 1, 1, 0, 1, 0, 0, 1, 0, 0, 1, 0]) (m_fieldfarelaw7_MeansOnetttttttthtblthbt_k K r0) a H := by kernel_rfl
  h1.trans (m_fieldfarelaw7_MeansOnetttttttthtblthbth_eq K r0 a H)
abbrev m_fieldfarelaw7_MeansOnetttttttthtblthb_k (K : AV → AH → Prop) (r0 : (AV × AV × AV) → AH → Prop) : KP := exP (fun (a : TE) (H : AH) => m_fieldfarelaw7_MeansOnetttttttthtblthbth K r0 (a 6) (a 7) (a 8) (a 9) (a 10) H) (m_fieldfarelaw7_MeansOnetttttttthtblth_k K r0)
def m_fieldfarelaw7_MeansOnetttttttthtblthb (K : AV → AH → Prop) (r0 : (AV × AV × AV) → AH → Prop) (x6 x7 x8 : AV) (H : AH) : Prop :=
  outP CC H (w_len PP 36 H x6) fun v1 H1 =>
  m_fieldfarelaw7_MeansOnetttttttthtblthbth K r0 x6 x7 x8 (.int .i64 0) v1 H1
theorem m_fieldfarelaw7_MeansOnetttttttthtblthb_eq (K : AV → AH → Prop) (r0 : (AV × AV × AV) → AH → Prop) (a : TE) (H : AH) : codeP PP CC (subC (bodyC PP 9) [1, 1, 1, 1, 1, 1, 1, 1, 0, 1, 0, 0, 1, 0, 0]) (m_fieldfarelaw7_MeansOnetttttttthtblth_k K r0) a H = m_fieldfarelaw7_MeansOnetttttttthtblthb K r0 (a 6) (a 7) (a 8) H :=
  have h1 : codeP PP CC (subC (bodyC PP 9) [1, 1, 1, 1, 1, 1, 1, 1, 0, 1, 0, 0, 1, 0, 0]) (m_fieldfarelaw7_MeansOnetttttttthtblth_k K r0) a H = codeP PP CC (subC (bodyC PP 9) [1, 1, 1, 1, 1, 1, 1, 1, 0, 1, 0, 0, 1, 0, 0, 0]) (exP (codeP PP CC (subC (bodyC PP 9) [1, 1, 1, 1, 1, 1, 1, 1, 0, 1, 0, 0, 1, 0, 0, 1]) (m_fieldfarelaw7_MeansOnetttttttthtblth_k K r0)) (m_fieldfarelaw7_MeansOnetttttttthtblth_k K r0)) a H := by kernel_rfl
  have h2 : codeP PP CC (subC (bodyC PP 9) [1, 1, 1, 1, 1, 1, 1, 1, 0, 1, 0, 0, 1, 0, 0, 0]) (exP (codeP PP CC (subC (bodyC PP 9) [1, 1, 1, 1, 1, 1, 1, 1, 0, 1, 0, 0, 1, 0, 0, 1]) (m_fieldfarelaw7_MeansOnetttttttthtblth_k K r0)) (m_fieldfarelaw7_MeansOnetttttttthtblth_k K r0)) a H = codeP PP CC (subC (bodyC PP 9) [1, 1, 1, 1, 1, 1, 1, 1, 0, 1, 0, 0, 1, 0, 0, 0]) (exP (fun (a : TE) (H : AH) => m_fieldfarelaw7_MeansOnetttttttthtblthbth K r0 (a 6) (a 7) (a 8) (a 9) (a 10) H) (m_fieldfarelaw7_MeansOnetttttttthtblth_k K r0)) a H := congrArg (fun k : KE => codeP PP CC (subC (bodyC PP 9) [1, 1, 1, 1, 1, 1, 1, 1, 0, 1, 0, 0, 1, 0, 0, 0]) (exP k (m_fieldfarelaw7_MeansOnetttttttthtblth_k K r0)) a H) (funext fun a => funext fun H => m_fieldfarelaw7_MeansOnetttttttthtblthbt_eq K r0 a H)
  have h2b : codeP PP CC (subC (bodyC PP 9) [1, 1, 1, 1, 1, 1, 1, 1, 0, 1, 0, 0, 1, 0, 0, 0]) (exP (fun (a : TE) (H : AH) => m_fieldfarelaw7_MeansOnetttttttthtblthbth K r0 (a 6) (a 7) (a 8) (a 9) (a 10) H) (m_fieldfarelaw7_MeansOnetttttttthtblth_k K r0)) a H = codeP PP CC (subC (bodyC PP 9) [1, 1, 1, 1, 1, 1, 1, 1, 0, 1, 0, 0, 1, 0, 0, 0]) (m_fieldfarelaw7_MeansOnetttttttthtblthb_k K r0) a H := by kernel_rfl
  have h3 : codeP PP CC (subC (bodyC PP 9) [1, 1, 1, 1, 1, 1, 1, 1, 0, 1, 0, 0, 1, 0, 0, 0]) (m_fieldfarelaw7_MeansOnetttttttthtblthb_k K r0) a H = m_fieldfarelaw7_MeansOnetttttttthtblthb K r0 (a 6) (a 7) (a 8) H := by kernel_rfl
  ((h1.trans h2).trans h2b).trans h3
theorem m_fieldfarelaw7_MeansOnetttttttthtblth_eq (K : AV → AH → Prop) (r0 : (AV × AV × AV) → AH → Prop) (a : TE) (H : AH) : codeP PP CC (subC (bodyC PP 9) [1, 1, 1, 1, 1, 1, 1, 1, 0, 1, 0, 0, 1, 0]) (m_fieldfarelaw7_MeansOnetttttttthtblt_k K r0) a H = m_fieldfarelaw7_MeansOnetttttttthtblthb K r0 (a 6) (a 7) (a 8) H :=
  have h1 : codeP PP CC (subC (bodyC PP 9) [1, 1, 1, 1, 1, 1, 1, 1, 0, 1, 0, 0, 1, 0]) (m_fieldfarelaw7_MeansOnetttttttthtblt_k K r0) a H = codeP PP CC (subC (bodyC PP 9) [1, 1, 1, 1, 1, 1, 1, 1, 0, 1, 0, 0, 1, 0, 0]) (m_fieldfarelaw7_MeansOnetttttttthtblth_k K r0) a H := by kernel_rfl
  h1.trans (m_fieldfarelaw7_MeansOnetttttttthtblthb_eq K r0 a H)
theorem m_fieldfarelaw7_MeansOnetttttttthtblt_eq (K : AV → AH → Prop) (r0 : (AV × AV × AV) → AH → Prop) (a : TE) (H : AH) : codeP PP CC (subC (bodyC PP 9) [1, 1, 1, 1, 1, 1, 1, 1, 0, 1, 0, 0, 1]) (m_fieldfarelaw7_MeansOnetttttttthtb_k K r0) a H = m_fieldfarelaw7_MeansOnetttttttthtblthb K r0 (a 6) (a 7) (a 8) H :=
  have h1 : codeP PP CC (subC (bodyC PP 9) [1, 1, 1, 1, 1, 1, 1, 1, 0, 1, 0, 0, 1]) (m_fieldfarelaw7_MeansOnetttttttthtb_k K r0) a H = codeP PP CC (subC (bodyC PP 9) [1, 1, 1, 1, 1, 1, 1, 1, 0, 1, 0, 0, 1, 0]) (m_fieldfarelaw7_MeansOnetttttttthtblt_k K r0) a H := by kernel_rfl
  h1.trans (m_fieldfarelaw7_MeansOnetttttttthtblth_eq K r0 a H)
abbrev m_fieldfarelaw7_MeansOnetttttttthtbl_k (K : AV → AH → Prop) (r0 : (AV × AV × AV) → AH → Prop) : KP := exP (fun (a : TE) (H : AH) => m_fieldfarelaw7_MeansOnetttttttthtblthb K r0 (a 6) (a 7) (a 8) H) (m_fieldfarelaw7_MeansOnetttttttthtb_k K r0)
def m_fieldfarelaw7_MeansOnetttttttthtbl (K : AV → AH → Prop) (r0 : (AV × AV × AV) → AH → Prop) (x6 x7 x8 : AV) (H : AH) : Prop :=
  outP CC H (w_int .lss H x8 (.int .i64 2)) fun v1 H1 =>
  condP v1
  (m_fieldfarelaw7_MeansOnetttttttthtblthb K r0 x6 x7 x8 H1)
  (K (.bool true) H1)
theorem m_fieldfarelaw7_MeansOnetttttttthtbl_eq (K : AV → AH → Prop) (r0 : (AV × AV × AV) → AH → Prop) (a : TE) (H : AH) : codeP PP CC (subC (bodyC PP 9) [1, 1, 1, 1, 1, 1, 1, 1, 0, 1, 0, 0]) (m_fieldfarelaw7_MeansOnetttttttthtb_k K r0) a H = m_fieldfarelaw7_MeansOnetttttttthtbl K r0 (a 6) (a 7) (a 8) H :=
  have h1 : codeP PP CC (subC (bodyC PP 9) [1, 1, 1, 1, 1, 1, 1, 1, 0, 1, 0, 0]) (m_fieldfarelaw7_MeansOnetttttttthtb_k K r0) a H = codeP PP CC (subC (bodyC PP 9) [1, 1, 1, 1, 1, 1, 1, 1, 0, 1, 0, 0, 0]) (exP (codeP PP CC (subC (bodyC PP 9) [1, 1, 1, 1, 1, 1, 1, 1, 0, 1, 0, 0, 1]) (m_fieldfarelaw7_MeansOnetttttttthtb_k K r0)) (m_fieldfarelaw7_MeansOnetttttttthtb_k K r0)) a H := by kernel_rfl
  have h2 : codeP PP CC (subC (bodyC PP 9) [1, 1, 1, 1, 1, 1, 1, 1, 0, 1, 0, 0, 0]) (exP (codeP PP CC (subC (bodyC PP 9) [1, 1, 1, 1, 1, 1, 1, 1, 0, 1, 0, 0, 1]) (m_fieldfarelaw7_MeansOnetttttttthtb_k K r0)) (m_fieldfarelaw7_MeansOnetttttttthtb_k K r0)) a H = codeP PP CC (subC (bodyC PP 9) [1, 1, 1, 1, 1, 1, 1, 1, 0, 1, 0, 0, 0]) (exP (fun (a : TE) (H : AH) => m_fieldfarelaw7_MeansOnetttttttthtblthb K r0 (a 6) (a 7) (a 8) H) (m_fieldfarelaw7_MeansOnetttttttthtb_k K r0)) a H := congrArg (fun k : KE => codeP PP CC (subC (bodyC PP 9) [1, 1, 1, 1, 1, 1, 1, 1, 0, 1, 0, 0, 0]) (exP k (m_fieldfarelaw7_MeansOnetttttttthtb_k K r0)) a H) (funext fun a => funext fun H => m_fieldfarelaw7_MeansOnetttttttthtblt_eq K r0 a H)
  have h2b : codeP PP CC (subC (bodyC PP 9) [1, 1, 1, 1, 1, 1, 1, 1, 0, 1, 0, 0, 0]) (exP (fun (a : TE) (H : AH) => m_fieldfarelaw7_MeansOnetttttttthtblthb K r0 (a 6) (a 7) (a 8) H) (m_fieldfarelaw7_MeansOnetttttttthtb_k K r0)) a H = codeP PP CC (subC (bodyC PP 9) [1, 1, 1, 1, 1, 1, 1, 1, 0, 1, 0, 0, 0]) (m_fieldfarelaw7_MeansOnetttttttthtbl_k K r0) a H := by kernel_rfl
  have h3 : codeP PP CC (subC (bodyC PP 9) [1, 1, 1, 1, 1, 1, 1, 1, 0, 1, 0, 0, 0]) (m_fieldfarelaw7_MeansOnetttttttthtbl_k K r0) a H = m_fieldfarelaw7_MeansOnetttttttthtbl K r0 (a 6) (a 7) (a 8) H := by kernel_rfl
  ((h1.trans h2).trans h2b).trans h3
def m_fieldfarelaw7_MeansOnetttttttthtb (K : AV → AH → Prop) (x6 x7 x8 : AV) (H : AH) : Prop :=
  loopP (fun (r0 : (AV × AV × AV) → AH → Prop) (s : (AV × AV × AV)) (H : AH) => m_fieldfarelaw7_MeansOnetttttttthtbl K r0 s.1 s.2.1 s.2.2 H) (x6, x7, x8) H
theorem m_fieldfarelaw7_MeansOnetttttttthtb_eq (K : AV → AH → Prop) (a : TE) (H : AH) : codeP PP CC (subC (bodyC PP 9) [1, 1, 1, 1, 1, 1, 1, 1, 0, 1, 0]) (m_fieldfarelaw7_MeansOnettttttttht_k K) a H = m_fieldfarelaw7_MeansOnetttttttthtb K (a 6) (a 7) (a 8) H :=
  have h1 : codeP PP CC (subC (bodyC PP 9) [1, 1, 1, 1, 1, 1, 1, 1, 0, 1, 0]) (m_fieldfarelaw7_MeansOnettttttttht_k K) a H = loopP (fun (rec : KE) => codeP PP CC (subC (bodyC PP 9) [1, 1, 1, 1, 1, 1, 1, 1, 0, 1, 0, 0]) (exP rec (m_fieldfarelaw7_MeansOnettttttttht_k K))) a H := by kernel_rfl
  have h2 := loopP_iso (F := fun (rec : KE) => codeP PP CC (subC (bodyC PP 9) [1, 1, 1, 1, 1, 1, 1, 1, 0, 1, 0, 0]) (exP rec (m_fieldfarelaw7_MeansOnettttttttht_k K))) (S := (AV × AV × AV)) (fun a => (a 6, a 7, a 8)) (fun (r0 : (AV × AV × AV) → AH → Prop) (s : (AV × AV × AV)) (H : AH) => m_fieldfarelaw7_MeansOnetttttttthtbl K r0 s.1 s.2.1 s.2.2 H) (fun (r0 : (AV × AV × AV) → AH → Prop) (a : TE) (H : AH) => (show codeP PP CC (subC (bodyC PP 9) [1, 1, 1, 1, 1, 1, 1, 1, 0, 1, 0, 0]) (exP (fun (a : TE) (H : AH) => r0 (a 6, a 7, a 8) H) (m_fieldfarelaw7_MeansOnettttttttht_k K)) a H = codeP PP CC (subC (bodyC PP 9) [1, 1, 1, 1, 1, 1, 1, 1, 0, 1, 0, 0]) (m_fieldfarelaw7_MeansOnetttttttthtb_k K r0) a H from by kernel_rfl).trans (m_fieldfarelaw7_MeansOnetttttttthtbl_eq K r0 a H)) a H
  h1.trans h2
theorem m_fieldfarelaw7_MeansOnettttttttht_eq (K : AV → AH → Prop) (a : TE) (H : AH) : codeP PP CC (subC (bodyC PP 9) [1, 1, 1, 1, 1, 1, 1, 1, 0, 1]) (m_fieldfarelaw7_MeansOnetttttttt_k K) a H = m_fieldfarelaw7_MeansOnetttttttthtb K (a 6) (a 7) (a 8) H :=
  have h1 : codeP PP CC (subC (bodyC PP 9) [1, 1, 1, 1, 1, 1, 1, 1, 0, 1]) (m_fieldfarelaw7_MeansOnetttttttt_k K) a H = codeP PP CC (subC (bodyC PP 9) [1, 1, 1, 1, 1, 1, 1, 1, 0, 1, 0]) (m_fieldfarelaw7_MeansOnettttttttht_k K) a H := by kernel_rfl
  h1.trans (m_fieldfarelaw7_MeansOnetttttttthtb_eq K a H)
abbrev m_fieldfarelaw7_MeansOnetttttttth_k (K : AV → AH → Prop) : KP := exP (fun (a : TE) (H : AH) => m_fieldfarelaw7_MeansOnetttttttthtb K (a 6) (a 7) (a 8) H) (m_fieldfarelaw7_MeansOnetttttttt_k K)
def m_fieldfarelaw7_MeansOnetttttttth (K : AV → AH → Prop) (x6 x7 : AV) (H : AH) : Prop :=
  m_fieldfarelaw7_MeansOnetttttttthtb K x6 x7 (.int .i64 0) H
theorem m_fieldfarelaw7_MeansOnetttttttth_eq (K : AV → AH → Prop) (a : TE) (H : AH) : codeP PP CC (subC (bodyC PP 9) [1, 1, 1, 1, 1, 1, 1, 1, 0]) (m_fieldfarelaw7_MeansOnetttttttt_k K) a H = m_fieldfarelaw7_MeansOnetttttttth K (a 6) (a 7) H :=
  have h1 : codeP PP CC (subC (bodyC PP 9) [1, 1, 1, 1, 1, 1, 1, 1, 0]) (m_fieldfarelaw7_MeansOnetttttttt_k K) a H = codeP PP CC (subC (bodyC PP 9) [1, 1, 1, 1, 1, 1, 1, 1, 0, 0]) (exP (codeP PP CC (subC (bodyC PP 9) [1, 1, 1, 1, 1, 1, 1, 1, 0, 1]) (m_fieldfarelaw7_MeansOnetttttttt_k K)) (m_fieldfarelaw7_MeansOnetttttttt_k K)) a H := by kernel_rfl
  have h2 : codeP PP CC (subC (bodyC PP 9) [1, 1, 1, 1, 1, 1, 1, 1, 0, 0]) (exP (codeP PP CC (subC (bodyC PP 9) [1, 1, 1, 1, 1, 1, 1, 1, 0, 1]) (m_fieldfarelaw7_MeansOnetttttttt_k K)) (m_fieldfarelaw7_MeansOnetttttttt_k K)) a H = codeP PP CC (subC (bodyC PP 9) [1, 1, 1, 1, 1, 1, 1, 1, 0, 0]) (exP (fun (a : TE) (H : AH) => m_fieldfarelaw7_MeansOnetttttttthtb K (a 6) (a 7) (a 8) H) (m_fieldfarelaw7_MeansOnetttttttt_k K)) a H := congrArg (fun k : KE => codeP PP CC (subC (bodyC PP 9) [1, 1, 1, 1, 1, 1, 1, 1, 0, 0]) (exP k (m_fieldfarelaw7_MeansOnetttttttt_k K)) a H) (funext fun a => funext fun H => m_fieldfarelaw7_MeansOnettttttttht_eq K a H)
  have h2b : codeP PP CC (subC (bodyC PP 9) [1, 1, 1, 1, 1, 1, 1, 1, 0, 0]) (exP (fun (a : TE) (H : AH) => m_fieldfarelaw7_MeansOnetttttttthtb K (a 6) (a 7) (a 8) H) (m_fieldfarelaw7_MeansOnetttttttt_k K)) a H = codeP PP CC (subC (bodyC PP 9) [1, 1, 1, 1, 1, 1, 1, 1, 0, 0]) (m_fieldfarelaw7_MeansOnetttttttth_k K) a H := by kernel_rfl
  have h3 : codeP PP CC (subC (bodyC PP 9) [1, 1, 1, 1, 1, 1, 1, 1, 0, 0]) (m_fieldfarelaw7_MeansOnetttttttth_k K) a H = m_fieldfarelaw7_MeansOnetttttttth K (a 6) (a 7) H := by kernel_rfl
  ((h1.trans h2).trans h2b).trans h3
theorem m_fieldfarelaw7_MeansOnetttttttt_eq (K : AV → AH → Prop) (a : TE) (H : AH) : codeP PP CC (subC (bodyC PP 9) [1, 1, 1, 1, 1, 1, 1, 1]) (m_fieldfarelaw7_MeansOne_K K) a H = m_fieldfarelaw7_MeansOnetttttttth K (a 6) (a 7) H :=
  have h1 : codeP PP CC (subC (bodyC PP 9) [1, 1, 1, 1, 1, 1, 1, 1]) (m_fieldfarelaw7_MeansOne_K K) a H = codeP PP CC (subC (bodyC PP 9) [1, 1, 1, 1, 1, 1, 1, 1, 0]) (m_fieldfarelaw7_MeansOnetttttttt_k K) a H := by kernel_rfl
  h1.trans (m_fieldfarelaw7_MeansOnetttttttth_eq K a H)
abbrev m_fieldfarelaw7_MeansOnettttttt_k (K : AV → AH → Prop) : KP := exP (fun (a : TE) (H : AH) => m_fieldfarelaw7_MeansOnetttttttth K (a 6) (a 7) H) (m_fieldfarelaw7_MeansOne_K K)
def m_fieldfarelaw7_MeansOnettttttt (K : AV → AH → Prop) (x6 x7 : AV) (H : AH) : Prop :=
  outP CC H (w_len PP 36 H x7) fun v1 H1 =>
  outP CC H1 (w_int .neq H1 v1 (.int .i64 1)) fun v2 H2 =>
  guardP (boolIs false v2) H2 (outP CC H2 (some (.val x7 H2))) fun v3 H3 =>
  guardP (boolIs false v2) H3 (outP CC H3 (w_indexAddr (.sl 1) H3 v3 (.int .i64 0))) fun v4 H4 =>
  guardP (boolIs false v2) H4 (outP CC H4 (w_load none H4 v4)) fun v5 H5 =>
  guardP (boolIs false v2) H5 (outP CC H5 (w_len PP 38 H5 v5)) fun v6 H6 =>
  guardP (boolIs false v2) H6 (outP CC H6 (w_int .neq H6 v6 (.int .i64 2))) fun v7 H7 =>
  outP CC H7 (w_pick H7 v2 (.bool true) v7) fun v8 H8 =>
  condP v8
  (K (.bool false) H8)
  (m_fieldfarelaw7_MeansOnetttttttth K x6 x7 H8)
theorem m_fieldfarelaw7_MeansOnettttttt_eq (K : AV → AH → Prop) (a : TE) (H : AH) : codeP PP CC (subC (bodyC PP 9) [1, 1, 1, 1, 1, 1, 1]) (m_fieldfarelaw7_MeansOne_K K) a H = m_fieldfarelaw7_MeansOnettttttt K (a 6) (a 7) H :=
  have h1 : codeP PP CC (subC (bodyC PP 9) [1, 1, 1, 1, 1, 1, 1]) (m_fieldfarelaw7_MeansOne_K K) a H = codeP PP CC (subC (bodyC PP 9) [1, 1, 1, 1, 1, 1, 1, 0]) (exP (codeP PP CC (subC (bodyC PP 9) [1, 1, 1, 1, 1, 1, 1, 1]) (m_fieldfarelaw7_MeansOne_K K)) (m_fieldfarelaw7_MeansOne_K K)) a H := by kernel_rfl
  have h2 : codeP PP CC (subC (bodyC PP 9) [1, 1, 1, 1, 1, 1, 1, 0]) (exP (codeP PP CC (subC (bodyC PP 9) [1, 1, 1, 1, 1, 1, 1, 1]) (m_fieldfarelaw7_MeansOne_K K)) (m_fieldfarelaw7_MeansOne_K K)) a H = codeP PP CC (subC (bodyC PP 9) [1, 1, 1, 1, 1, 1, 1, 0]) (exP (fun (a : TE) (H : AH) => m_fieldfarelaw7_MeansOnetttttttth K (a 6) (a 7) H) (m_fieldfarelaw7_MeansOne_K K)) a H := congrArg (fun k : KE => codeP PP CC (subC (bodyC PP 9) [1, 1, 1, 1, 1, 1, 1, 0]) (exP k (m_fieldfarelaw7_MeansOne_K K)) a H) (funext fun a => funext fun H => m_fieldfarelaw7_MeansOnetttttttt_eq K a H)
  have h2b : codeP PP CC (subC (bodyC PP 9) [1, 1, 1, 1, 1, 1, 1, 0]) (exP (fun (a : TE) (H : AH) => m_fieldfarelaw7_MeansOnetttttttth K (a 6) (a 7) H) (m_fieldfarelaw7_MeansOne_K K)) a H = codeP PP CC (subC (bodyC PP 9) [1, 1, 1, 1, 1, 1, 1, 0]) (m_fieldfarelaw7_MeansOnettttttt_k K) a H := by kernel_rfl
  have h3 : codeP PP CC (subC (bodyC PP 9) [1, 1, 1, 1, 1, 1, 1, 0]) (m_fieldfarelaw7_MeansOnettttttt_k K) a H = m_fieldfarelaw7_MeansOnettttttt K (a 6) (a 7) H := by kernel_rfl
  ((h1.trans h2).trans h2b).trans h3
abbrev m_fieldfarelaw7_MeansOnetttttt_k (K : AV → AH → Prop) : KP := exP (fun (a : TE) (H : AH) => m_fieldfarelaw7_MeansOnettttttt K (a 6) (a 7) H) (m_fieldfarelaw7_MeansOne_K K)
def m_fieldfarelaw7_MeansOnetttttt (K : AV → AH → Prop) (x6 x7 : AV) (H : AH) : Prop :=
  outP CC H (w_len PP 36 H x6) fun v1 H1 =>
  outP CC H1 (w_int .eql H1 v1 (.int .i64 0)) fun v2 H2 =>
  condP v2
  (outP CC H2 (w_len PP 36 H2 x7) fun v3 H3 =>
  outP CC H3 (w_int .eql H3 v3 (.int .i64 0)) fun v4 H4 =>
  K v4 H4)
  (m_fieldfarelaw7_MeansOnettttttt K x6 x7 H2)
theorem m_fieldfarelaw7_MeansOnetttttt_eq (K : AV → AH → Prop) (a : TE) (H : AH) : codeP PP CC (subC (bodyC PP 9) [1, 1, 1, 1, 1, 1]) (m_fieldfarelaw7_MeansOne_K K) a H = m_fieldfarelaw7_MeansOnetttttt K (a 6) (a 7) H :=
  have h1 : codeP PP CC (subC (bodyC PP 9) [1, 1, 1, 1, 1, 1]) (m_fieldfarelaw7_MeansOne_K K) a H = codeP PP CC (subC (bodyC PP 9) [1, 1, 1, 1, 1, 1, 0]) (exP (codeP PP CC (subC (bodyC PP 9) [1, 1, 1, 1, 1, 1, 1]) (m_fieldfarelaw7_MeansOne_K K)) (m_fieldfarelaw7_MeansOne_K K)) a H := by kernel_rfl
  have h2 : codeP PP CC (subC (bodyC PP 9) [1, 1, 1, 1, 1, 1, 0]) (exP (codeP PP CC (subC (bodyC PP 9) [1, 1, 1, 1, 1, 1, 1]) (m_fieldfarelaw7_MeansOne_K K)) (m_fieldfarelaw7_MeansOne_K K)) a H = codeP PP CC (subC (bodyC PP 9) [1, 1, 1, 1, 1, 1, 0]) (exP (fun (a : TE) (H : AH) => m_fieldfarelaw7_MeansOnettttttt K (a 6) (a 7) H) (m_fieldfarelaw7_MeansOne_K K)) a H := congrArg (fun k : KE => codeP PP CC (subC (bodyC PP 9) [1, 1, 1, 1, 1, 1, 0]) (exP k (m_fieldfarelaw7_MeansOne_K K)) a H) (funext fun a => funext fun H => m_fieldfarelaw7_MeansOnettttttt_eq K a H)
  have h2b : codeP PP CC (subC (bodyC PP 9) [1, 1, 1, 1, 1, 1, 0]) (exP (fun (a : TE) (H : AH) => m_fieldfarelaw7_MeansOnettttttt K (a 6) (a 7) H) (m_fieldfarelaw7_MeansOne_K K)) a H = codeP PP CC (subC (bodyC PP 9) [1, 1, 1, 1, 1, 1, 0]) (m_fieldfarelaw7_MeansOnetttttt_k K) a H := by kernel_rfl
  have h3 : codeP PP CC (subC (bodyC PP 9) [1, 1, 1, 1, 1, 1, 0]) (m_fieldfarelaw7_MeansOnetttttt_k K) a H = m_fieldfarelaw7_MeansOnetttttt K (a 6) (a 7) H := by kernel_rfl
  ((h1.trans h2).trans h2b).trans h3
abbrev m_fieldfarelaw7_MeansOnettttt_k (K : AV → AH → Prop) : KP := exP (fun (a : TE) (H : AH) => m_fieldfarelaw7_MeansOnetttttt K (a 6) (a 7) H) (m_fieldfarelaw7_MeansOne_K K)
def m_fieldfarelaw7_MeansOnettttt (K : AV → AH → Prop) (x1 x6 : AV) (H : AH) : Prop :=
  outP CC H (some (.enter 22 [(.int .i64 1), x1, x6])) fun v1 H1 =>
  m_fieldfarelaw7_MeansOnetttttt K x6 v1 H1
theorem m_fieldfarelaw7_MeansOnettttt_eq (K : AV → AH → Prop) (a : TE) (H : AH) : codeP PP CC (subC (bodyC PP 9) [1, 1, 1, 1, 1]) (m_fieldfarelaw7_MeansOne_K K) a H = m_fieldfarelaw7_MeansOnettttt K (a 1) (a 6) H :=
  have h1 : codeP PP CC (subC (bodyC PP 9) [1, 1, 1, 1, 1]) (m_fieldfarelaw7_MeansOne_K K) a H = codeP PP CC (subC (bodyC PP 9) [1, 1, 1, 1, 1, 0]) (exP (codeP PP CC (subC (bodyC PP 9) [1, 1, 1, 1, 1, 1]) (m_fieldfarelaw7_MeansOne_K K)) (m_fieldfarelaw7_MeansOne_K K)) a H := by kernel_rfl
  have h2 : codeP PP CC (subC (bodyC PP 9) [1, 1, 1, 1, 1, 0]) (exP (codeP PP CC (subC (bodyC PP 9) [1, 1, 1, 1, 1, 1]) (m_fieldfarelaw7_MeansOne_K K)) (m_fieldfarelaw7_MeansOne_K K)) a H = codeP PP CC (subC (bodyC PP 9) [1, 1, 1, 1, 1, 0]) (exP (fun (a : TE) (H : AH) => m_fieldfarelaw7_MeansOnetttttt K (a 6) (a 7) H) (m_fieldfarelaw7_MeansOne_K K)) a H := congrArg (fun k : KE => codeP PP CC (subC (bodyC PP 9) [1, 1, 1, 1, 1, 0]) (exP k (m_fieldfarelaw7_MeansOne_K K)) a H) (funext fun a => funext fun H => m_fieldfarelaw7_MeansOnetttttt_eq K a H)
  have h2b : codeP PP CC (subC (bodyC PP 9) [1, 1, 1, 1, 1, 0]) (exP (fun (a : TE) (H : AH) => m_fieldfarelaw7_MeansOnetttttt K (a 6) (a 7) H) (m_fieldfarelaw7_MeansOne_K K)) a H = codeP PP CC (subC (bodyC PP 9) [1, 1, 1, 1, 1, 0]) (m_fieldfarelaw7_MeansOnettttt_k K) a H := by kernel_rfl
  have h3 : codeP PP CC (subC (bodyC PP 9) [1, 1, 1, 1, 1, 0]) (m_fieldfarelaw7_MeansOnettttt_k K) a H = m_fieldfarelaw7_MeansOnettttt K (a 1) (a 6) H := by kernel_rfl
  ((h1.trans h2).trans h2b).trans h3
abbrev m_fieldfarelaw7_MeansOnetttt_k (K : AV → AH → Prop) : KP := exP (fun (a : TE) (H : AH) => m_fieldfarelaw7_MeansOnettttt K (a 1) (a 6) H) (m_fieldfarelaw7_MeansOne_K K)
def m_fieldfarelaw7_MeansOnetttt (K : AV → AH → Prop) (x1 x6 : AV) (H : AH) : Prop :=
  outP CC H (w_int .rem H x1 (.int .i64 9)) fun v1 H1 =>
  outP CC H1 (w_int .add H1 v1 (.int .i64 9)) fun v2 H2 =>
  outP CC H2 (w_int .rem H2 v2 (.int .i64 9)) fun v3 H3 =>
  outP CC H3 (w_int .add H3 (.int .i64 1) v3) fun v4 H4 =>
  m_fieldfarelaw7_MeansOnettttt K v4 x6 H4
theorem m_fieldfarelaw7_MeansOnetttt_eq (K : AV → AH → Prop) (a : TE) (H : AH) : codeP PP CC (subC (bodyC PP 9) [1, 1, 1, 1]) (m_fieldfarelaw7_MeansOne_K K) a H = m_fieldfarelaw7_MeansOnetttt K (a 1) (a 6) H :=
  have h1 : codeP PP CC (subC (bodyC PP 9) [1, 1, 1, 1]) (m_fieldfarelaw7_MeansOne_K K) a H = codeP PP CC (subC (bodyC PP 9) [1, 1, 1, 1, 0]) (exP (codeP PP CC (subC (bodyC PP 9) [1, 1, 1, 1, 1]) (m_fieldfarelaw7_MeansOne_K K)) (m_fieldfarelaw7_MeansOne_K K)) a H := by kernel_rfl
  have h2 : codeP PP CC (subC (bodyC PP 9) [1, 1, 1, 1, 0]) (exP (codeP PP CC (subC (bodyC PP 9) [1, 1, 1, 1, 1]) (m_fieldfarelaw7_MeansOne_K K)) (m_fieldfarelaw7_MeansOne_K K)) a H = codeP PP CC (subC (bodyC PP 9) [1, 1, 1, 1, 0]) (exP (fun (a : TE) (H : AH) => m_fieldfarelaw7_MeansOnettttt K (a 1) (a 6) H) (m_fieldfarelaw7_MeansOne_K K)) a H := congrArg (fun k : KE => codeP PP CC (subC (bodyC PP 9) [1, 1, 1, 1, 0]) (exP k (m_fieldfarelaw7_MeansOne_K K)) a H) (funext fun a => funext fun H => m_fieldfarelaw7_MeansOnettttt_eq K a H)
  have h2b : codeP PP CC (subC (bodyC PP 9) [1, 1, 1, 1, 0]) (exP (fun (a : TE) (H : AH) => m_fieldfarelaw7_MeansOnettttt K (a 1) (a 6) H) (m_fieldfarelaw7_MeansOne_K K)) a H = codeP PP CC (subC (bodyC PP 9) [1, 1, 1, 1, 0]) (m_fieldfarelaw7_MeansOnetttt_k K) a H := by kernel_rfl
  have h3 : codeP PP CC (subC (bodyC PP 9) [1, 1, 1, 1, 0]) (m_fieldfarelaw7_MeansOnetttt_k K) a H = m_fieldfarelaw7_MeansOnetttt K (a 1) (a 6) H := by kernel_rfl
  ((h1.trans h2).trans h2b).trans h3
abbrev m_fieldfarelaw7_MeansOnettt_k (K : AV → AH → Prop) : KP := exP (fun (a : TE) (H : AH) => m_fieldfarelaw7_MeansOnetttt K (a 1) (a 6) H) (m_fieldfarelaw7_MeansOne_K K)
def m_fieldfarelaw7_MeansOnettt (K : AV → AH → Prop) (x0 x1 : AV) (H : AH) : Prop :=
  outP CC H (some (.enter 21 [x0, (.int .i64 2), (.int .i64 20)])) fun v1 H1 =>
  m_fieldfarelaw7_MeansOnetttt K x1 v1 H1
theorem m_fieldfarelaw7_MeansOnettt_eq (K : AV → AH → Prop) (a : TE) (H : AH) : codeP PP CC (subC (bodyC PP 9) [1, 1, 1]) (m_fieldfarelaw7_MeansOne_K K) a H = m_fieldfarelaw7_MeansOnettt K (a 0) (a 1) H :=
  have h1 : codeP PP CC (subC (bodyC PP 9) [1, 1, 1]) (m_fieldfarelaw7_MeansOne_K K) a H = codeP PP CC (subC (bodyC PP 9) [1, 1, 1, 0]) (exP (codeP PP CC (subC (bodyC PP 9) [1, 1, 1, 1]) (m_fieldfarelaw7_MeansOne_K K)) (m_fieldfarelaw7_MeansOne_K K)) a H := by kernel_rfl
  have h2 : codeP PP CC (subC (bodyC PP 9) [1, 1, 1, 0]) (exP (codeP PP CC (subC (bodyC PP 9) [1, 1, 1, 1]) (m_fieldfarelaw7_MeansOne_K K)) (m_fieldfarelaw7_MeansOne_K K)) a H = codeP PP CC (subC (bodyC PP 9) [1, 1, 1, 0]) (exP (fun (a : TE) (H : AH) => m_fieldfarelaw7_MeansOnetttt K (a 1) (a 6) H) (m_fieldfarelaw7_MeansOne_K K)) a H := congrArg (fun k : KE => codeP PP CC (subC (bodyC PP 9) [1, 1, 1, 0]) (exP k (m_fieldfarelaw7_MeansOne_K K)) a H) (funext fun a => funext fun H => m_fieldfarelaw7_MeansOnetttt_eq K a H)
  have h2b : codeP PP CC (subC (bodyC PP 9) [1, 1, 1, 0]) (exP (fun (a : TE) (H : AH) => m_fieldfarelaw7_MeansOnetttt K (a 1) (a 6) H) (m_fieldfarelaw7_MeansOne_K K)) a H = codeP PP CC (subC (bodyC PP 9) [1, 1, 1, 0]) (m_fieldfarelaw7_MeansOnettt_k K) a H := by kernel_rfl
  have h3 : codeP PP CC (subC (bodyC PP 9) [1, 1, 1, 0]) (m_fieldfarelaw7_MeansOnettt_k K) a H = m_fieldfarelaw7_MeansOnettt K (a 0) (a 1) H := by kernel_rfl
  ((h1.trans h2).trans h2b).trans h3
abbrev m_fieldfarelaw7_MeansOnett_k (K : AV → AH → Prop) : KP := exP (fun (a : TE) (H : AH) => m_fieldfarelaw7_MeansOnettt K (a 0) (a 1) H) (m_fieldfarelaw7_MeansOne_K K)
def m_fieldfarelaw7_MeansOnett (K : AV → AH → Prop) (x0 x1 x5 : AV) (H : AH) : Prop :=
  outP CC H (w_un .not H x5) fun v1 H1 =>
  condP v1
  (K (.bool false) H1)
  (m_fieldfarelaw7_MeansOnettt K x0 x1 H1)
theorem m_fieldfarelaw7_MeansOnett_eq (K : AV → AH → Prop) (a : TE) (H : AH) : codeP PP CC (subC (bodyC PP 9) [1, 1]) (m_fieldfarelaw7_MeansOne_K K) a H = m_fieldfarelaw7_MeansOnett K (a 0) (a 1) (a 5) H :=
  have h1 : codeP PP CC (subC (bodyC PP 9) [1, 1]) (m_fieldfarelaw7_MeansOne_K K) a H = codeP PP CC (subC (bodyC PP 9) [1, 1, 0]) (exP (codeP PP CC (subC (bodyC PP 9) [1, 1, 1]) (m_fieldfarelaw7_MeansOne_K K)) (m_fieldfarelaw7_MeansOne_K K)) a H := by kernel_rfl
  have h2 : codeP PP CC (subC (bodyC PP 9) [1, 1, 0]) (exP (codeP PP CC (subC (bodyC PP 9) [1, 1, 1]) (m_fieldfarelaw7_MeansOne_K K)) (m_fieldfarelaw7_MeansOne_K K)) a H = codeP PP CC (subC (bodyC PP 9) [1, 1, 0]) (exP (fun (a : TE) (H : AH) => m_fieldfarelaw7_MeansOnettt K (a 0) (a 1) H) (m_fieldfarelaw7_MeansOne_K K)) a H := congrArg (fun k : KE => codeP PP CC (subC (bodyC PP 9) [1, 1, 0]) (exP k (m_fieldfarelaw7_MeansOne_K K)) a H) (funext fun a => funext fun H => m_fieldfarelaw7_MeansOnettt_eq K a H)
  have h2b : codeP PP CC (subC (bodyC PP 9) [1, 1, 0]) (exP (fun (a : TE) (H : AH) => m_fieldfarelaw7_MeansOnettt K (a 0) (a 1) H) (m_fieldfarelaw7_MeansOne_K K)) a H = codeP PP CC (subC (bodyC PP 9) [1, 1, 0]) (m_fieldfarelaw7_MeansOnett_k K) a H := by kernel_rfl
  have h3 : codeP PP CC (subC (bodyC PP 9) [1, 1, 0]) (m_fieldfarelaw7_MeansOnett_k K) a H = m_fieldfarelaw7_MeansOnett K (a 0) (a 1) (a 5) H := by kernel_rfl
  ((h1.trans h2).trans h2b).trans h3
abbrev m_fieldfarelaw7_MeansOnet_k (K : AV → AH → Prop) : KP := exP (fun (a : TE) (H : AH) => m_fieldfarelaw7_MeansOnett K (a 0) (a 1) (a 5) H) (m_fieldfarelaw7_MeansOne_K K)
def m_fieldfarelaw7_MeansOnet (K : AV → AH → Prop) (x0 x1 : AV) (H : AH) : Prop :=
  outP CC H (some (.enter 11 [])) fun v1 H1 =>
  m_fieldfarelaw7_MeansOnett K x0 x1 v1 H1
theorem m_fieldfarelaw7_MeansOnet_eq (K : AV → AH → Prop) (a : TE) (H : AH) : codeP PP CC (subC (bodyC PP 9) [1]) (m_fieldfarelaw7_MeansOne_K K) a H = m_fieldfarelaw7_MeansOnet K (a 0) (a 1) H :=
  have h1 : codeP PP CC (subC (bodyC PP 9) [1]) (m_fieldfarelaw7_MeansOne_K K) a H = codeP PP CC (subC (bodyC PP 9) [1, 0]) (exP (codeP PP CC (subC (bodyC PP 9) [1, 1]) (m_fieldfarelaw7_MeansOne_K K)) (m_fieldfarelaw7_MeansOne_K K)) a H := by kernel_rfl
  have h2 : codeP PP CC (subC (bodyC PP 9) [1, 0]) (exP (codeP PP CC (subC (bodyC PP 9) [1, 1]) (m_fieldfarelaw7_MeansOne_K K)) (m_fieldfarelaw7_MeansOne_K K)) a H = codeP PP CC (subC (bodyC PP 9) [1, 0]) (exP (fun (a : TE) (H : AH) => m_fieldfarelaw7_MeansOnett K (a 0) (a 1) (a 5) H) (m_fieldfarelaw7_MeansOne_K K)) a H := congrArg (fun k : KE => codeP PP CC (subC (bodyC PP 9) [1, 0]) (exP k (m_fieldfarelaw7_MeansOne_K K)) a H) (funext fun a => funext fun H => m_fieldfarelaw7_MeansOnett_eq K a H)
  have h2b : codeP PP CC (subC (bodyC PP 9) [1, 0]) (exP (fun (a : TE) (H : AH) => m_fieldfarelaw7_MeansOnett K (a 0) (a 1) (a 5) H) (m_fieldfarelaw7_MeansOne_K K)) a H = codeP PP CC (subC (bodyC PP 9) [1, 0]) (m_fieldfarelaw7_MeansOnet_k K) a H := by kernel_rfl
  have h3 : codeP PP CC (subC (bodyC PP 9) [1, 0]) (m_fieldfarelaw7_MeansOnet_k K) a H = m_fieldfarelaw7_MeansOnet K (a 0) (a 1) H := by kernel_rfl
  ((h1.trans h2).trans h2b).trans h3
abbrev m_fieldfarelaw7_MeansOne_k (K : AV → AH → Prop) : KP := exP (fun (a : TE) (H : AH) => m_fieldfarelaw7_MeansOnet K (a 0) (a 1) H) (m_fieldfarelaw7_MeansOne_K K)
def m_fieldfarelaw7_MeansOne (K : AV → AH → Prop) (x0 x1 : AV) (H : AH) : Prop :=
  m_fieldfarelaw7_MeansOnet K x0 x1 H
theorem m_fieldfarelaw7_MeansOne_eq (K : AV → AH → Prop) (a : TE) (H : AH) : codeP PP CC (subC (bodyC PP 9) []) (m_fieldfarelaw7_MeansOne_K K) a H = m_fieldfarelaw7_MeansOne K (a 0) (a 1) H :=
  have h1 : codeP PP CC (subC (bodyC PP 9) []) (m_fieldfarelaw7_MeansOne_K K) a H = codeP PP CC (subC (bodyC PP 9) [0]) (exP (codeP PP CC (subC (bodyC PP 9) [1]) (m_fieldfarelaw7_MeansOne_K K)) (m_fieldfarelaw7_MeansOne_K K)) a H := by kernel_rfl
  have h2 : codeP PP CC (subC (bodyC PP 9) [0]) (exP (codeP PP CC (subC (bodyC PP 9) [1]) (m_fieldfarelaw7_MeansOne_K K)) (m_fieldfarelaw7_MeansOne_K K)) a H = codeP PP CC (subC (bodyC PP 9) [0]) (exP (fun (a : TE) (H : AH) => m_fieldfarelaw7_MeansOnet K (a 0) (a 1) H) (m_fieldfarelaw7_MeansOne_K K)) a H := congrArg (fun k : KE => codeP PP CC (subC (bodyC PP 9) [0]) (exP k (m_fieldfarelaw7_MeansOne_K K)) a H) (funext fun a => funext fun H => m_fieldfarelaw7_MeansOnet_eq K a H)
  have h2b : codeP PP CC (subC (bodyC PP 9) [0]) (exP (fun (a : TE) (H : AH) => m_fieldfarelaw7_MeansOnet K (a 0) (a 1) H) (m_fieldfarelaw7_MeansOne_K K)) a H = codeP PP CC (subC (bodyC PP 9) [0]) (m_fieldfarelaw7_MeansOne_k K) a H := by kernel_rfl
  have h3 : codeP PP CC (subC (bodyC PP 9) [0]) (m_fieldfarelaw7_MeansOne_k K) a H = m_fieldfarelaw7_MeansOne K (a 0) (a 1) H := by kernel_rfl
  ((h1.trans h2).trans h2b).trans h3
theorem m_fieldfarelaw7_MeansOne_ok (x0 x1 : AV) (H : AH) (K : AV → AH → Prop) (h : m_fieldfarelaw7_MeansOne K x0 x1 H) : CC.call 9 [x0, x1] H K :=
  have h1 : funP PP CC 9 [x0, x1] H K = codeP PP CC (subC (bodyC PP 9) []) (m_fieldfarelaw7_MeansOne_K K) (argE [x0, x1]) H := by kernel_rfl
  have h2 : m_fieldfarelaw7_MeansOne K (argE [x0, x1] 0) (argE [x0, x1] 1) H = m_fieldfarelaw7_MeansOne K x0 x1 H := by kernel_rfl
  funP_ok (P := PP) (by kernel_rfl) (by kernel_rfl) ((h1.trans ((m_fieldfarelaw7_MeansOne_eq K (argE [x0, x1]) H).trans h2)).mpr h)

end
end Go.Ab
