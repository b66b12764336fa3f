/- What functions do, said as what the evaluator does. Printed by a program. -/
import Derived.Test.YtoafnnphjbdedaaGreatDoorBeg
import Derived.Test.YtoafnnphjbdedaaGreatDoorEv3
namespace Go.Ab
noncomputable section
open Go.Proofs
set_option maxRecDepth 100000



/-! 7: fieldfare/fieldfarelaw7.BestMerge -/
abbrev m_fieldfarelaw7_BestMerge_K (K : AV → AH → Prop) : KP := finP PP (resC PP 7) K
abbrev m_fieldfarelaw7_BestMergetttttt_k (K : AV → AH → Prop) : KP := exP (codeP PP CC (subC (bodyC PP 7) [1, 1, 1, 1, 1, 1, 1]) (m_fieldfarelaw7_BestMerge_K K)) (m_fieldfarelaw7_BestMerge_K K)
abbrev m_fieldfarelaw7_BestMergettttttht_k (K : AV → AH → Prop) : KP := blockP 2 (m_fieldfarelaw7_BestMergetttttt_k K)
abbrev m_fieldfarelaw7_BestMergetttttthtb_k (K : AV → AH → Prop) (r0 : (AV × AV × AV × AV × AV) → AH → Prop) : KP := exP (fun (a : TE) (H : AH) => r0 (a 0, a 2, a 8, a 9, a 11) H) (m_fieldfarelaw7_BestMergettttttht_k K)
def m_fieldfarelaw7_BestMergetttttthtbl (K : AV → AH → Prop) (r0 : (AV × AV × AV × AV × AV) → AH → Prop) (x0 x2 x8 x9 x11 : AV) (H : AH) : Prop :=
  outP CC H (w_len PP 42 H x2) fun v1 H1 =>
  outP CC H1 (w_int .lss H1 x11 v1) fun v2 H2 =>
  guardP (boolIs true v2) H2 (outP CC H2 (some (.val x11 H2))) fun v3 H3 =>
  guardP (boolIs true v2) H3 (outP CC H3 (w_int .lss H3 v3 (.int .i64 20))) fun v4 H4 =>
  outP CC H4 (w_pick H4 v2 v4 (.bool false)) fun v5 H5 =>
  condP v5
  (outP CC H5 (w_int .add H5 (.int .i64 100) x11) fun v6 H6 =>
  outP CC H6 (w_indexAddr (.sl 1) H6 x2 x11) fun v7 H7 =>
  outP CC H7 (w_load none H7 v7) fun v8 H8 =>
  outP CC H8 (w_int .rem H8 v8 (.int .i64 50)) fun v9 H9 =>
  outP CC H9 (w_build PP 37 H9 [(0, v6), (1, v9)]) fun v10 H10 =>
  outP CC H10 (w_buildSlice PP 37 1 H10 [(0, v10)] none) fun v11 H11 =>
  outP CC H11 (w_append 37 2 16 H11 x9 v11 none) fun v12 H12 =>
  outP CC H12 (w_int .add H12 x11 (.int .i64 1)) fun v13 H13 =>
  r0 (x0, x2, x8, v12, v13) H13)
  (outP CC H5 (w_append 37 2 16 H5 (.slice none 0 0 true) x8 none) fun v14 H14 =>
  outP CC H14 (w_append 37 2 16 H14 v14 x9 none) fun v15 H15 =>
  outP CC H15 (some (.enter 25 [x0, v15])) fun v16 H16 =>
  outP CC H16 (some (.enter 25 [x0, x8])) fun v17 H17 =>
  outP CC H17 (some (.enter 25 [x0, x9])) fun v18 H18 =>
  outP CC H18 (w_append 37 2 16 H18 v17 v18 none) fun v19 H19 =>
  outP CC H19 (some (.enter 25 [x0, v19])) fun v20 H20 =>
  outP CC H20 (some (.enter 23 [v16, v20])) fun v21 H21 =>
  K v21 H21)
theorem m_fieldfarelaw7_BestMergetttttthtbl_eq (K : AV → AH → Prop) (r0 : (AV × AV × AV × AV × AV) → AH → Prop) (a : TE) (H : AH) : codeP PP CC (subC (bodyC PP 7) [1, 1, 1, 1, 1, 1, 0, 1, 0, 0]) (m_fieldfarelaw7_BestMergetttttthtb_k K r0) a H = m_fieldfarelaw7_BestMergetttttthtbl K r0 (a 0) (a 2) (a 8) (a 9) (a 11) H :=
  by kernel_rfl
def m_fieldfarelaw7_BestMergetttttthtb (K : AV → AH → Prop) (x0 x2 x8 x9 x11 : AV) (H : AH) : Prop :=
  loopP (fun (r0 : (AV × AV × AV × AV × AV) → AH → Prop) (s : (AV × AV × AV × AV × AV)) (H : AH) => m_fieldfarelaw7_BestMergetttttthtbl K r0 s.1 s.2.1 s.2.2.1 s.2.2.2.1 s.2.2.2.2 H) (x0, x2, x8, x9, x11) H
theorem m_fieldfarelaw7_BestMergetttttthtb_eq (K : AV → AH → Prop) (a : TE) (H : AH) : codeP PP CC (subC (bodyC PP 7) [1, 1, 1, 1, 1, 1, 0, 1, 0]) (m_fieldfarelaw7_BestMergettttttht_k K) a H = m_fieldfarelaw7_BestMergetttttthtb K (a 0) (a 2) (a 8) (a 9) (a 11) H :=
  have h1 : codeP PP CC (subC (bodyC PP 7) [1, 1, 1, 1, 1, 1, 0, 1, 0]) (m_fieldfarelaw7_BestMergettttttht_k K) a H = loopP (fun (rec : KE) => codeP PP CC (subC (bodyC PP 7) [1, 1, 1, 1, 1, 1, 0, 1, 0, 0]) (exP rec (m_fieldfarelaw7_BestMergettttttht_k K))) a H := by kernel_rfl
  have h2 := loopP_iso (F := fun (rec : KE) => codeP PP CC (subC (bodyC PP 7) [1, 1, 1, 1, 1, 1, 0, 1, 0, 0]) (exP rec (m_fieldfarelaw7_BestMergettttttht_k K))) (S := (AV × AV × AV × AV × AV)) (fun a => (a 0, a 2, a 8, a 9, a 11)) (fun (r0 : (AV × AV × AV × AV × AV) → AH → Prop) (s : (AV × AV × AV × AV × AV)) (H : AH) => m_fieldfarelaw7_BestMergetttttthtbl K r0 s.1 s.2.1 s.2.2.1 s.2.2.2.1 s.2.2.2.2 H) (fun (r0 : (AV × AV × AV × AV × AV) → AH → Prop) (a : TE) (H : AH) => (show codeP PP CC (subC (bodyC PP 7) [1, 1, 1, 1, 1, 1, 0, 1, 0, 0]) (exP (fun (a : TE) (H : AH) => r0 (a 0, a 2, a 8, a 9, a 11) H) (m_fieldfarelaw7_BestMergettttttht_k K)) a H = codeP PP CC (subC (bodyC PP 7) [1, 1, 1, 1, 1, 1, 0, 1, 0, 0]) (m_fieldfarelaw7_BestMergetttttthtb_k K r0) a H from by kernel_rfl).trans (m_fieldfarelaw7_BestMergetttttthtbl_eq K r0 a H)) a H
  h1.trans h2
theorem m_fieldfarelaw7_BestMergettttttht_eq (K : AV → AH → Prop) (a : TE) (H : AH) : codeP PP CC (subC (bodyC PP 7) [1, 1, 1, 1, 1, 1, 0, 1]) (m_fieldfarelaw7_BestMergetttttt_k K) a H = m_fieldfarelaw7_BestMergetttttthtb K (a 0) (a 2) (a 8) (a 9) (a 11) H :=
  have h1 : codeP PP CC (subC (bodyC PP 7) [1, 1, 1, 1, 1, 1, 0, 1]) (m_fieldfarelaw7_BestMergetttttt_k K) a H = codeP PP CC (subC (bodyC PP 7) [1, 1, 1, 1, 1, 1, 0, 1, 0]) (m_fieldfarelaw7_BestMergettttttht_k K) a H := by kernel_rfl
  h1.trans (m_fieldfarelaw7_BestMergetttttthtb_eq K a H)
abbrev m_fieldfarelaw7_BestMergetttttth_k (K : AV → AH → Prop) : KP := exP (fun (a : TE) (H : AH) => m_fieldfarelaw7_BestMergetttttthtb K (a 0) (a 2) (a 8) (a 9) (a 11) H) (m_fieldfarelaw7_BestMergetttttt_k K)
def m_fieldfarelaw7_BestMergetttttth (K : AV → AH → Prop) (x0 x2 x8 x9 : AV) (H : AH) : Prop :=
  m_fieldfarelaw7_BestMergetttttthtb K x0 x2 x8 x9 (.int .i64 0) H
theorem m_fieldfarelaw7_BestMergetttttth_eq (K : AV → AH → Prop) (a : TE) (H : AH) : codeP PP CC (subC (bodyC PP 7) [1, 1, 1, 1, 1, 1, 0]) (m_fieldfarelaw7_BestMergetttttt_k K) a H = m_fieldfarelaw7_BestMergetttttth K (a 0) (a 2) (a 8) (a 9) H :=
  have h1 : codeP PP CC (subC (bodyC PP 7) [1, 1, 1, 1, 1, 1, 0]) (m_fieldfarelaw7_BestMergetttttt_k K) a H = codeP PP CC (subC (bodyC PP 7) [1, 1, 1, 1, 1, 1, 0, 0]) (exP (codeP PP CC (subC (bodyC PP 7) [1, 1, 1, 1, 1, 1, 0, 1]) (m_fieldfarelaw7_BestMergetttttt_k K)) (m_fieldfarelaw7_BestMergetttttt_k K)) a H := by kernel_rfl
  have h2 : codeP PP CC (subC (bodyC PP 7) [1, 1, 1, 1, 1, 1, 0, 0]) (exP (codeP PP CC (subC (bodyC PP 7) [1, 1, 1, 1, 1, 1, 0, 1]) (m_fieldfarelaw7_BestMergetttttt_k K)) (m_fieldfarelaw7_BestMergetttttt_k K)) a H = codeP PP CC (subC (bodyC PP 7) [1, 1, 1, 1, 1, 1, 0, 0]) (exP (fun (a : TE) (H : AH) => m_fieldfarelaw7_BestMergetttttthtb K (a 0) (a 2) (a 8) (a 9) (a 11) H) (m_fieldfarelaw7_BestMergetttttt_k K)) a H := congrArg (fun k : KE => codeP PP CC (subC (bodyC PP 7) [1, 1, 1, 1, 1, 1, 0, 0]) (exP k (m_fieldfarelaw7_BestMergetttttt_k K)) a H) (funext fun a => funext fun H => m_fieldfarelaw7_BestMergettttttht_eq K a H)
  have h2b : codeP PP CC (subC (bodyC PP 7) [1, 1, 1, 1, 1, 1, 0, 0]) (exP (fun (a : TE) (H : AH) => m_fieldfarelaw7_BestMergetttttthtb K (a 0) (a 2) (a 8) (a 9) (a 11) H) (m_fieldfarelaw7_BestMergetttttt_k K)) a H = codeP PP CC (subC (bodyC PP 7) [1, 1, 1, 1, 1, 1, 0, 0]) (m_fieldfarelaw7_BestMergetttttth_k K) a H := by kernel_rfl
  have h3 : codeP PP CC (subC (bodyC PP 7) [1, 1, 1, 1, 1, 1, 0, 0]) (m_fieldfarelaw7_BestMergetttttth_k K) a H = m_fieldfarelaw7_BestMergetttttth K (a 0) (a 2) (a 8) (a 9) H := by kernel_rfl
  ((h1.trans h2).trans h2b).trans h3
theorem m_fieldfarelaw7_BestMergetttttt_eq (K : AV → AH → Prop) (a : TE) (H : AH) : codeP PP CC (subC (bodyC PP 7) [1, 1, 1, 1, 1, 1]) (m_fieldfarelaw7_BestMerge_K K) a H = m_fieldfarelaw7_BestMergetttttth K (a 0) (a 2) (a 8) (a 9) H :=
  have h1 : codeP PP CC (subC (bodyC PP 7) [1, 1, 1, 1, 1, 1]) (m_fieldfarelaw7_BestMerge_K K) a H = codeP PP CC (subC (bodyC PP 7) [1, 1, 1, 1, 1, 1, 0]) (m_fieldfarelaw7_BestMergetttttt_k K) a H := by kernel_rfl
  h1.trans (m_fieldfarelaw7_BestMergetttttth_eq K a H)
abbrev m_fieldfarelaw7_BestMergettttt_k (K : AV → AH → Prop) : KP := exP (fun (a : TE) (H : AH) => m_fieldfarelaw7_BestMergetttttth K (a 0) (a 2) (a 8) (a 9) H) (m_fieldfarelaw7_BestMerge_K K)
abbrev m_fieldfarelaw7_BestMergetttttht_k (K : AV → AH → Prop) : KP := blockP 0 (m_fieldfarelaw7_BestMergettttt_k K)
abbrev m_fieldfarelaw7_BestMergettttthtb_k (K : AV → AH → Prop) (r0 : (AV × AV × AV × AV × AV × AV) → AH → Prop) : KP := exP (fun (a : TE) (H : AH) => r0 (a 0, a 1, a 2, a 8, a 9, a 10) H) (m_fieldfarelaw7_BestMergetttttht_k K)
def m_fieldfarelaw7_BestMergettttthtbl (K : AV → AH → Prop) (r0 : (AV × AV × AV × AV × AV × AV) → AH → Prop) (x0 x1 x2 x8 x9 x10 : AV) (H : AH) : Prop :=
  outP CC H (w_len PP 42 H x1) fun v1 H1 =>
  outP CC H1 (w_int .lss H1 x10 v1) fun v2 H2 =>
  guardP (boolIs true v2) H2 (outP CC H2 (some (.val x10 H2))) fun v3 H3 =>
  guardP (boolIs true v2) H3 (outP CC H3 (w_int .lss H3 v3 (.int .i64 20))) fun v4 H4 =>
  outP CC H4 (w_pick H4 v2 v4 (.bool false)) fun v5 H5 =>
  condP v5
  (outP CC H5 (w_indexAddr (.sl 1) H5 x1 x10) fun v6 H6 =>
  outP CC H6 (w_load none H6 v6) fun v7 H7 =>
  outP CC H7 (w_int .rem H7 v7 (.int .i64 50)) fun v8 H8 =>
  outP CC H8 (w_build PP 37 H8 [(0, x10), (1, v8)]) fun v9 H9 =>
  outP CC H9 (w_buildSlice PP 37 1 H9 [(0, v9)] none) fun v10 H10 =>
  outP CC H10 (w_append 37 2 16 H10 x8 v10 none) fun v11 H11 =>
  outP CC H11 (w_int .add H11 x10 (.int .i64 1)) fun v12 H12 =>
  r0 (x0, x1, x2, v11, x9, v12) H12)
  (m_fieldfarelaw7_BestMergetttttth K x0 x2 x8 x9 H5)
theorem m_fieldfarelaw7_BestMergettttthtbl_eq (K : AV → AH → Prop) (r0 : (AV × AV × AV × AV × AV × AV) → AH → Prop) (a : TE) (H : AH) : codeP PP CC (subC (bodyC PP 7) [1, 1, 1, 1, 1, 0, 1, 0, 0]) (m_fieldfarelaw7_BestMergettttthtb_k K r0) a H = m_fieldfarelaw7_BestMergettttthtbl K r0 (a 0) (a 1) (a 2) (a 8) (a 9) (a 10) H :=
  by kernel_rfl
def m_fieldfarelaw7_BestMergettttthtb (K : AV → AH → Prop) (x0 x1 x2 x8 x9 x10 : AV) (H : AH) : Prop :=
  loopP (fun (r0 : (AV × AV × AV × AV × AV × AV) → AH → Prop) (s : (AV × AV × AV × AV × AV × AV)) (H : AH) => m_fieldfarelaw7_BestMergettttthtbl K r0 s.1 s.2.1 s.2.2.1 s.2.2.2.1 s.2.2.2.2.1 s.2.2.2.2.2 H) (x0, x1, x2, x8, x9, x10) H
theorem m_fieldfarelaw7_BestMergettttthtb_eq (K : AV → AH → Prop) (a : TE) (H : AH) : codeP PP CC (subC (bodyC PP 7) [1, 1, 1, 1, 1, 0, 1, 0]) (m_fieldfarelaw7_BestMergetttttht_k K) a H = m_fieldfarelaw7_BestMergettttthtb K (a 0) (a 1) (a 2) (a 8) (a 9) (a 10) H :=
  have h1 : codeP PP CC (subC (bodyC PP 7) [1, 1, 1, 1, 1, 0, 1, 0]) (m_fieldfarelaw7_BestMergetttttht_k K) a H = loopP (fun (rec : KE) => codeP PP CC (subC (bodyC PP 7) [1, 1, 1, 1, 1, 0, 1, 0, 0]) (exP rec (m_fieldfarelaw7_BestMergetttttht_k K))) a H := by kernel_rfl
  have h2 := loopP_iso (F := fun (rec : KE) => codeP PP CC (subC (bodyC PP 7) [1, 1, 1, 1, 1, 0, 1, 0, 0]) (exP rec (m_fieldfarelaw7_BestMergetttttht_k K))) (S := (AV × AV × AV × AV × AV × AV)) (fun a => (a 0, a 1, a 2, a 8, a 9, a 10)) (fun (r0 : (AV × AV × AV × AV × AV × AV) → AH → Prop) (s : (AV × AV × AV × AV × AV × AV)) (H : AH) => m_fieldfarelaw7_BestMergettttthtbl K r0 s.1 s.2.1 s.2.2.1 s.2.2.2.1 s.2.2.2.2.1 s.2.2.2.2.2 H) (fun (r0 : (AV × AV × AV × AV × AV × AV) → AH → Prop) (a : TE) (H : AH) => (show codeP PP CC (subC (bodyC PP 7) [1, 1, 1, 1, 1, 0, 1, 0, 0]) (exP (fun (a : TE) (H : AH) => r0 (a 0, a 1, a 2, a 8, a 9, a 10) H) (m_fieldfarelaw7_BestMergetttttht_k K)) a H = codeP PP CC (subC (bodyC PP 7) [1, 1, 1, 1, 1, 0, 1, 0, 0]) (m_fieldfarelaw7_BestMergettttthtb_k K r0) a H from by kernel_rfl).trans (m_fieldfarelaw7_BestMergettttthtbl_eq K r0 a H)) a H
  h1.trans h2
theorem m_fieldfarelaw7_BestMergetttttht_eq (K : AV → AH → Prop) (a : TE) (H : AH) : codeP PP CC (subC (bodyC PP 7) [1, 1, 1, 1, 1, 0, 1]) (m_fieldfarelaw7_BestMergettttt_k K) a H = m_fieldfarelaw7_BestMergettttthtb K (a 0) (a 1) (a 2) (a 8) (a 9) (a 10) H :=
  have h1 : codeP PP CC (subC (bodyC PP 7) [1, 1, 1, 1, 1, 0, 1]) (m_fieldfarelaw7_BestMergettttt_k K) a H = codeP PP CC (subC (bodyC PP 7) [1, 1, 1, 1, 1, 0, 1, 0]) (m_fieldfarelaw7_BestMergetttttht_k K) a H := by kernel_rfl
  h1.trans (m_fieldfarelaw7_BestMergettttthtb_eq K a H)
abbrev m_fieldfarelaw7_BestMergettttth_k (K : AV → AH → Prop) : KP := exP (fun (a : TE) (H : AH) => m_fieldfarelaw7_BestMergettttthtb K (a 0) (a 1) (a 2) (a 8) (a 9) (a 10) H) (m_fieldfarelaw7_BestMergettttt_k K)
def m_fieldfarelaw7_BestMergettttth (K : AV → AH → Prop) (x0 x1 x2 x8 x9 : AV) (H : AH) : Prop :=
  m_fieldfarelaw7_BestMergettttthtb K x0 x1 x2 x8 x9 (.int .i64 0) H
theorem m_fieldfarelaw7_BestMergettttth_eq (K : AV → AH → Prop) (a : TE) (H : AH) : codeP PP CC (subC (bodyC PP 7) [1, 1, 1, 1, 1, 0]) (m_fieldfarelaw7_BestMergettttt_k K) a H = m_fieldfarelaw7_BestMergettttth K (a 0) (a 1) (a 2) (a 8) (a 9) H :=
  have h1 : codeP PP CC (subC (bodyC PP 7) [1, 1, 1, 1, 1, 0]) (m_fieldfarelaw7_BestMergettttt_k K) a H = codeP PP CC (subC (bodyC PP 7) [1, 1, 1, 1, 1, 0, 0]) (exP (codeP PP CC (subC (bodyC PP 7) [1, 1, 1, 1, 1, 0, 1]) (m_fieldfarelaw7_BestMergettttt_k K)) (m_fieldfarelaw7_BestMergettttt_k K)) a H := by kernel_rfl
  have h2 : codeP PP CC (subC (bodyC PP 7) [1, 1, 1, 1, 1, 0, 0]) (exP (codeP PP CC (subC (bodyC PP 7) [1, 1, 1, 1, 1, 0, 1]) (m_fieldfarelaw7_BestMergettttt_k K)) (m_fieldfarelaw7_BestMergettttt_k K)) a H = codeP PP CC (subC (bodyC PP 7) [1, 1, 1, 1, 1, 0, 0]) (exP (fun (a : TE) (H : AH) => m_fieldfarelaw7_BestMergettttthtb K (a 0) (a 1) (a 2) (a 8) (a 9) (a 10) H) (m_fieldfarelaw7_BestMergettttt_k K)) a H := congrArg (fun k : KE => codeP PP CC (subC (bodyC PP 7) [1, 1, 1, 1, 1, 0, 0]) (exP k (m_fieldfarelaw7_BestMergettttt_k K)) a H) (funext fun a => funext fun H => m_fieldfarelaw7_BestMergetttttht_eq K a H)
  have h2b : codeP PP CC (subC (bodyC PP 7) [1, 1, 1, 1, 1, 0, 0]) (exP (fun (a : TE) (H : AH) => m_fieldfarelaw7_BestMergettttthtb K (a 0) (a 1) (a 2) (a 8) (a 9) (a 10) H) (m_fieldfarelaw7_BestMergettttt_k K)) a H = codeP PP CC (subC (bodyC PP 7) [1, 1, 1, 1, 1, 0, 0]) (m_fieldfarelaw7_BestMergettttth_k K) a H := by kernel_rfl
  have h3 : codeP PP CC (subC (bodyC PP 7) [1, 1, 1, 1, 1, 0, 0]) (m_fieldfarelaw7_BestMergettttth_k K) a H = m_fieldfarelaw7_BestMergettttth K (a 0) (a 1) (a 2) (a 8) (a 9) H := by kernel_rfl
  ((h1.trans h2).trans h2b).trans h3
theorem m_fieldfarelaw7_BestMergettttt_eq (K : AV → AH → Prop) (a : TE) (H : AH) : codeP PP CC (subC (bodyC PP 7) [1, 1, 1, 1, 1]) (m_fieldfarelaw7_BestMerge_K K) a H = m_fieldfarelaw7_BestMergettttth K (a 0) (a 1) (a 2) (a 8) (a 9) H :=
  have h1 : codeP PP CC (subC (bodyC PP 7) [1, 1, 1, 1, 1]) (m_fieldfarelaw7_BestMerge_K K) a H = codeP PP CC (subC (bodyC PP 7) [1, 1, 1, 1, 1, 0]) (exP (codeP PP CC (subC (bodyC PP 7) [1, 1, 1, 1, 1, 1]) (m_fieldfarelaw7_BestMerge_K K)) (m_fieldfarelaw7_BestMerge_K K)) a H := by kernel_rfl
  have h2 : codeP PP CC (subC (bodyC PP 7) [1, 1, 1, 1, 1, 0]) (exP (codeP PP CC (subC (bodyC PP 7) [1, 1, 1, 1, 1, 1]) (m_fieldfarelaw7_BestMerge_K K)) (m_fieldfarelaw7_BestMerge_K K)) a H = codeP PP CC (subC (bodyC PP 7) [1, 1, 1, 1, 1, 0]) (exP (fun (a : TE) (H : AH) => m_fieldfarelaw7_BestMergetttttth K (a 0) (a 2) (a 8) (a 9) H) (m_fieldfarelaw7_BestMerge_K K)) a H := congrArg (fun k : KE => codeP PP CC (subC (bodyC PP 7) [1, 1, 1, 1, 1, 0]) (exP k (m_fieldfarelaw7_BestMerge_K K)) a H) (funext fun a => funext fun H => m_fieldfarelaw7_BestMergetttttt_eq K a H)
  have h2b : codeP PP CC (subC (bodyC PP 7) [1, 1, 1, 1, 1, 0]) (exP (fun (a : TE) (H : AH) => m_fieldfarelaw7_BestMergetttttth K (a 0) (a 2) (a 8) (a 9) H) (m_fieldfarelaw7_BestMerge_K K)) a H = codeP PP CC (subC (bodyC PP 7) [1, 1, 1, 1, 1, 0]) (m_fieldfarelaw7_BestMergettttt_k K) a H := by kernel_rfl
  ((h1.trans h2).trans h2b).trans (m_fieldfarelaw7_BestMergettttth_eq K a H)
abbrev m_fieldfarelaw7_BestMergetttt_k (K : AV → AH → Prop) : KP := exP (fun (a : TE) (H : AH) => m_fieldfarelaw7_BestMergettttth K (a 0) (a 1) (a 2) (a 8) (a 9) H) (m_fieldfarelaw7_BestMerge_K K)
def m_fieldfarelaw7_BestMergetttt (K : AV → AH → Prop) (x0 x1 x2 : AV) (H : AH) : Prop :=
  m_fieldfarelaw7_BestMergettttth K x0 x1 x2 (.slice none 0 0 true) (.slice none 0 0 true) H
theorem m_fieldfarelaw7_BestMergetttt_eq (K : AV → AH → Prop) (a : TE) (H : AH) : codeP PP CC (subC (bodyC PP 7) [1, 1, 1, 1]) (m_fieldfarelaw7_BestMerge_K K) a H = m_fieldfarelaw7_BestMergetttt K (a 0) (a 1) (a 2) H :=
  have h1 : codeP PP CC (subC (bodyC PP 7) [1, 1, 1, 1]) (m_fieldfarelaw7_BestMerge_K K) a H = codeP PP CC (subC (bodyC PP 7) [1, 1, 1, 1, 0]) (exP (codeP PP CC (subC (bodyC PP 7) [1, 1, 1, 1, 1]) (m_fieldfarelaw7_BestMerge_K K)) (m_fieldfarelaw7_BestMerge_K K)) a H := by kernel_rfl
  have h2 : codeP PP CC (subC (bodyC PP 7) [1, 1, 1, 1, 0]) (exP (codeP PP CC (subC (bodyC PP 7) [1, 1, 1, 1, 1]) (m_fieldfarelaw7_BestMerge_K K)) (m_fieldfarelaw7_BestMerge_K K)) a H = codeP PP CC (subC (bodyC PP 7) [1, 1, 1, 1, 0]) (exP (fun (a : TE) (H : AH) => m_fieldfarelaw7_BestMergettttth K (a 0) (a 1) (a 2) (a 8) (a 9) H) (m_fieldfarelaw7_BestMerge_K K)) a H := congrArg (fun k : KE => codeP PP CC (subC (bodyC PP 7) [1, 1, 1, 1, 0]) (exP k (m_fieldfarelaw7_BestMerge_K K)) a H) (funext fun a => funext fun H => m_fieldfarelaw7_BestMergettttt_eq K a H)
  have h2b : codeP PP CC (subC (bodyC PP 7) [1, 1, 1, 1, 0]) (exP (fun (a : TE) (H : AH) => m_fieldfarelaw7_BestMergettttth K (a 0) (a 1) (a 2) (a 8) (a 9) H) (m_fieldfarelaw7_BestMerge_K K)) a H = codeP PP CC (subC (bodyC PP 7) [1, 1, 1, 1, 0]) (m_fieldfarelaw7_BestMergetttt_k K) a H := by kernel_rfl
  have h3 : codeP PP CC (subC (bodyC PP 7) [1, 1, 1, 1, 0]) (m_fieldfarelaw7_BestMergetttt_k K) a H = m_fieldfarelaw7_BestMergetttt K (a 0) (a 1) (a 2) H := by kernel_rfl
  ((h1.trans h2).trans h2b).trans h3
abbrev m_fieldfarelaw7_BestMergettt_k (K : AV → AH → Prop) : KP := exP (fun (a : TE) (H : AH) => m_fieldfarelaw7_BestMergetttt K (a 0) (a 1) (a 2) H) (m_fieldfarelaw7_BestMerge_K K)
def m_fieldfarelaw7_BestMergettt (K : AV → AH → Prop) (x0 x1 x2 : AV) (H : AH) : Prop :=
  outP CC H (w_int .rem H x0 (.int .i64 10)) fun v1 H1 =>
  outP CC H1 (w_int .add H1 v1 (.int .i64 10)) fun v2 H2 =>
  outP CC H2 (w_int .rem H2 v2 (.int .i64 10)) fun v3 H3 =>
  m_fieldfarelaw7_BestMergetttt K v3 x1 x2 H3
theorem m_fieldfarelaw7_BestMergettt_eq (K : AV → AH → Prop) (a : TE) (H : AH) : codeP PP CC (subC (bodyC PP 7) [1, 1, 1]) (m_fieldfarelaw7_BestMerge_K K) a H = m_fieldfarelaw7_BestMergettt K (a 0) (a 1) (a 2) H :=
  have h1 : codeP PP CC (subC (bodyC PP 7) [1, 1, 1]) (m_fieldfarelaw7_BestMerge_K K) a H = codeP PP CC (subC (bodyC PP 7) [1, 1, 1, 0]) (exP (codeP PP CC (subC (bodyC PP 7) [1, 1, 1, 1]) (m_fieldfarelaw7_BestMerge_K K)) (m_fieldfarelaw7_BestMerge_K K)) a H := by kernel_rfl
  have h2 : codeP PP CC (subC (bodyC PP 7) [1, 1, 1, 0]) (exP (codeP PP CC (subC (bodyC PP 7) [1, 1, 1, 1]) (m_fieldfarelaw7_BestMerge_K K)) (m_fieldfarelaw7_BestMerge_K K)) a H = codeP PP CC (subC (bodyC PP 7) [1, 1, 1, 0]) (exP (fun (a : TE) (H : AH) => m_fieldfarelaw7_BestMergetttt K (a 0) (a 1) (a 2) H) (m_fieldfarelaw7_BestMerge_K K)) a H := congrArg (fun k : KE => codeP PP CC (subC (bodyC PP 7) [1, 1, 1, 0]) (exP k (m_fieldfarelaw7_BestMerge_K K)) a H) (funext fun a => funext fun H => m_fieldfarelaw7_BestMergetttt_eq K a H)
  have h2b : codeP PP CC (subC (bodyC PP 7) [1, 1, 1, 0]) (exP (fun (a : TE) (H : AH) => m_fieldfarelaw7_BestMergetttt K (a 0) (a 1) (a 2) H) (m_fieldfarelaw7_BestMerge_K K)) a H = codeP PP CC (subC (bodyC PP 7) [1, 1, 1, 0]) (m_fieldfarelaw7_BestMergettt_k K) a H := by kernel_rfl
  have h3 : codeP PP CC (subC (bodyC PP 7) [1, 1, 1, 0]) (m_fieldfarelaw7_BestMergettt_k K) a H = m_fieldfarelaw7_BestMergettt K (a 0) (a 1) (a 2) H := by kernel_rfl
  ((h1.trans h2).trans h2b).trans h3
abbrev m_fieldfarelaw7_BestMergett_k (K : AV → AH → Prop) : KP := exP (fun (a : TE) (H : AH) => m_fieldfarelaw7_BestMergettt K (a 0) (a 1) (a 2) H) (m_fieldfarelaw7_BestMerge_K K)
def m_fieldfarelaw7_BestMergett (K : AV → AH → Prop) (x0 x1 x2 x7 : AV) (H : AH) : Prop :=
  outP CC H (w_un .not H x7) fun v1 H1 =>
  condP v1
  (K (.bool false) H1)
  (m_fieldfarelaw7_BestMergettt K x0 x1 x2 H1)
theorem m_fieldfarelaw7_BestMergett_eq (K : AV → AH → Prop) (a : TE) (H : AH) : codeP PP CC (subC (bodyC PP 7) [1, 1]) (m_fieldfarelaw7_BestMerge_K K) a H = m_fieldfarelaw7_BestMergett K (a 0) (a 1) (a 2) (a 7) H :=
  have h1 : codeP PP CC (subC (bodyC PP 7) [1, 1]) (m_fieldfarelaw7_BestMerge_K K) a H = codeP PP CC (subC (bodyC PP 7) [1, 1, 0]) (exP (codeP PP CC (subC (bodyC PP 7) [1, 1, 1]) (m_fieldfarelaw7_BestMerge_K K)) (m_fieldfarelaw7_BestMerge_K K)) a H := by kernel_rfl
  have h2 : codeP PP CC (subC (bodyC PP 7) [1, 1, 0]) (exP (codeP PP CC (subC (bodyC PP 7) [1, 1, 1]) (m_fieldfarelaw7_BestMerge_K K)) (m_fieldfarelaw7_BestMerge_K K)) a H = codeP PP CC (subC (bodyC PP 7) [1, 1, 0]) (exP (fun (a : TE) (H : AH) => m_fieldfarelaw7_BestMergettt K (a 0) (a 1) (a 2) H) (m_fieldfarelaw7_BestMerge_K K)) a H := congrArg (fun k : KE => codeP PP CC (subC (bodyC PP 7) [1, 1, 0]) (exP k (m_fieldfarelaw7_BestMerge_K K)) a H) (funext fun a => funext fun H => m_fieldfarelaw7_BestMergettt_eq K a H)
  have h2b : codeP PP CC (subC (bodyC PP 7) [1, 1, 0]) (exP (fun (a : TE) (H : AH) => m_fieldfarelaw7_BestMergettt K (a 0) (a 1) (a 2) H) (m_fieldfarelaw7_BestMerge_K K)) a H = codeP PP CC (subC (bodyC PP 7) [1, 1, 0]) (m_fieldfarelaw7_BestMergett_k K) a H := by kernel_rfl
  have h3 : codeP PP CC (subC (bodyC PP 7) [1, 1, 0]) (m_fieldfarelaw7_BestMergett_k K) a H = m_fieldfarelaw7_BestMergett K (a 0) (a 1) (a 2) (a 7) H := by kernel_rfl
  ((h1.trans h2).trans h2b).trans h3
abbrev m_fieldfarelaw7_BestMerget_k (K : AV → AH → Prop) : KP := exP (fun (a : TE) (H : AH) => m_fieldfarelaw7_BestMergett K (a 0) (a 1) (a 2) (a 7) H) (m_fieldfarelaw7_BestMerge_K K)
def m_fieldfarelaw7_BestMerget (K : AV → AH → Prop) (x0 x1 x2 : AV) (H : AH) : Prop :=
  outP CC H (some (.enter 14 [])) fun v1 H1 =>
  m_fieldfarelaw7_BestMergett K x0 x1 x2 v1 H1
theorem m_fieldfarelaw7_BestMerget_eq (K : AV → AH → Prop) (a : TE) (H : AH) : codeP PP CC (subC (bodyC PP 7) [1]) (m_fieldfarelaw7_BestMerge_K K) a H = m_fieldfarelaw7_BestMerget K (a 0) (a 1) (a 2) H :=
  have h1 : codeP PP CC (subC (bodyC PP 7) [1]) (m_fieldfarelaw7_BestMerge_K K) a H = codeP PP CC (subC (bodyC PP 7) [1, 0]) (exP (codeP PP CC (subC (bodyC PP 7) [1, 1]) (m_fieldfarelaw7_BestMerge_K K)) (m_fieldfarelaw7_BestMerge_K K)) a H := by kernel_rfl
  have h2 : codeP PP CC (subC (bodyC PP 7) [1, 0]) (exP (codeP PP CC (subC (bodyC PP 7) [1, 1]) (m_fieldfarelaw7_BestMerge_K K)) (m_fieldfarelaw7_BestMerge_K K)) a H = codeP PP CC (subC (bodyC PP 7) [1, 0]) (exP (fun (a : TE) (H : AH) => m_fieldfarelaw7_BestMergett K (a 0) (a 1) (a 2) (a 7) H) (m_fieldfarelaw7_BestMerge_K K)) a H := congrArg (fun k : KE => codeP PP CC (subC (bodyC PP 7) [1, 0]) (exP k (m_fieldfarelaw7_BestMerge_K K)) a H) (funext fun a => funext fun H => m_fieldfarelaw7_BestMergett_eq K a H)
  have h2b : codeP PP CC (subC (bodyC PP 7) [1, 0]) (exP (fun (a : TE) (H : AH) => m_fieldfarelaw7_BestMergett K (a 0) (a 1) (a 2) (a 7) H) (m_fieldfarelaw7_BestMerge_K K)) a H = codeP PP CC (subC (bodyC PP 7) [1, 0]) (m_fieldfarelaw7_BestMerget_k K) a H := by kernel_rfl
  have h3 : codeP PP CC (subC (bodyC PP 7) [1, 0]) (m_fieldfarelaw7_BestMerget_k K) a H = m_fieldfarelaw7_BestMerget K (a 0) (a 1) (a 2) H := by kernel_rfl
  ((h1.trans h2).trans h2b).trans h3
abbrev m_fieldfarelaw7_BestMerge_k (K : AV → AH → Prop) : KP := exP (fun (a : TE) (H : AH) => m_fieldfarelaw7_BestMerget K (a 0) (a 1) (a 2) H) (m_fieldfarelaw7_BestMerge_K K)
def m_fieldfarelaw7_BestMerge (K : AV → AH → Prop) (x0 x1 x2 : AV) (H : AH) : Prop :=
  m_fieldfarelaw7_BestMerget K x0 x1 x2 H
theorem m_fieldfarelaw7_BestMerge_eq (K : AV → AH → Prop) (a : TE) (H : AH) : codeP PP CC (subC (bodyC PP 7) []) (m_fieldfarelaw7_BestMerge_K K) a H = m_fieldfarelaw7_BestMerge K (a 0) (a 1) (a 2) H :=
  have h1 : codeP PP CC (subC (bodyC PP 7) []) (m_fieldfarelaw7_BestMerge_K K) a H = codeP PP CC (subC (bodyC PP 7) [0]) (exP (codeP PP CC (subC (bodyC PP 7) [1]) (m_fieldfarelaw7_BestMerge_K K)) (m_fieldfarelaw7_BestMerge_K K)) a H := by kernel_rfl
  have h2 : codeP PP CC (subC (bodyC PP 7) [0]) (exP (codeP PP CC (subC (bodyC PP 7) [1]) (m_fieldfarelaw7_BestMerge_K K)) (m_fieldfarelaw7_BestMerge_K K)) a H = codeP PP CC (subC (bodyC PP 7) [0]) (exP (fun (a : TE) (H : AH) => m_fieldfarelaw7_BestMerget K (a 0) (a 1) (a 2) H) (m_fieldfarelaw7_BestMerge_K K)) a H := congrArg (fun k : KE => codeP PP CC (subC (bodyC PP 7) [0]) (exP k (m_fieldfarelaw7_BestMerge_K K)) a H) (funext fun a => funext fun H => m_fieldfarelaw7_BestMerget_eq K a H)
  have h2b : codeP PP CC (subC (bodyC PP 7) [0]) (exP (fun (a : TE) (H : AH) => m_fieldfarelaw7_BestMerget K (a 0) (a 1) (a 2) H) (m_fieldfarelaw7_BestMerge_K K)) a H = codeP PP CC (subC (bodyC PP 7) [0]) (m_fieldfarelaw7_BestMerge_k K) a H := by kernel_rfl
  have h3 : codeP PP CC (subC (bodyC PP 7) [0]) (m_fieldfarelaw7_BestMerge_k K) a H = m_fieldfarelaw7_BestMerge K (a 0) (a 1) (a 2) H := by kernel_rfl
  ((h1.trans h2).trans h2b).trans h3
theorem m_fieldfarelaw7_BestMerge_ok (x0 x1 x2 : AV) (H : AH) (K : AV → AH → Prop) (h : m_fieldfarelaw7_BestMerge K x0 x1 x2 H) : CC.call 7 [x0, x1, x2] H K :=
  have h1 : funP PP CC 7 [x0, x1, x2] H K = codeP PP CC (subC (bodyC PP 7) []) (m_fieldfarelaw7_BestMerge_K K) (argE [x0, x1, x2]) H := by kernel_rfl
  have h2 : m_fieldfarelaw7_BestMerge K (argE [x0, x1, x2] 0) (argE [x0, x1, x2] 1) (argE [x0, x1, x2] 2) H = m_fieldfarelaw7_BestMerge K x0 x1 x2 H := by kernel_rfl
  funP_ok (P := PP) (by kernel_rfl) (by kernel_rfl) ((h1.trans ((m_fieldfarelaw7_BestMerge_eq K (argE [x0, x1, x2]) H).trans h2)).mpr h)

end
end Go.Ab
