/- What functions do, said as what the evaluator does. Printed by a program. -/
import Derived.Test.YtjpjmeidpjjgdaaGreatDoorBeg
import Derived.Test.YtjpjmeidpjjgdaaGreatDoorEv3
namespace Go.Ab
noncomputable section
open Go.Proofs
set_option maxRecDepth 100000



/-! 5: fieldfare/fieldfarelaw7.MeansStill -/
abbrev m_fieldfarelaw7_MeansStill_K (K : AV → AH → Prop) : KP := finP PP (resC PP 5) K
abbrev m_fieldfarelaw7_MeansStilltttttttt_k (K : AV → AH → Prop) : KP := exP (codeP PP CC (subC (bodyC PP 5) [1, 1, 1, 1, 1, 1, 1, 1, 1]) (m_fieldfarelaw7_MeansStill_K K)) (m_fieldfarelaw7_MeansStill_K K)
abbrev m_fieldfarelaw7_MeansStillttttttttht_k (K : AV → AH → Prop) : KP := blockP 2 (m_fieldfarelaw7_MeansStilltttttttt_k K)
abbrev m_fieldfarelaw7_MeansStilltttttttthtb_k (K : AV → AH → Prop) (r0 : (AV × AV × AV × AV) → AH → Prop) : KP := exP (fun (a : TE) (H : AH) => r0 (a 8, a 12, a 55, a 56) H) (m_fieldfarelaw7_MeansStillttttttttht_k K)
def m_fieldfarelaw7_MeansStilltttttttthtbl (K : AV → AH → Prop) (r0 : (AV × AV × AV × AV) → AH → Prop) (x8 x12 x55 x56 : AV) (H : AH) : Prop :=
  outP CC H (w_int .lss H x56 x55) fun v1 H1 =>
  condP v1
  (outP CC H1 (w_indexAddr (.sl 1) H1 x12 x56) fun v2 H2 =>
  outP CC H2 (w_load none H2 v2) fun v3 H3 =>
  outP CC H3 (w_indexAddr (.sl 1) H3 x8 x56) fun v4 H4 =>
  outP CC H4 (w_load none H4 v4) fun v5 H5 =>
  outP CC H5 (some (.enter 24 [v3, v5])) fun v6 H6 =>
  outP CC H6 (w_un .not H6 v6) fun v7 H7 =>
  guardP (boolIs false v7) H7 (outP CC H7 (some (.val x12 H7))) fun v8 H8 =>
  guardP (boolIs false v7) H8 (outP CC H8 (some (.val x8 H8))) fun v9 H9 =>
  guardP (boolIs false v7) H9 (outP CC H9 (some (.val x56 H9))) fun v10 H10 =>
  guardP (boolIs false v7) H10 (outP CC H10 (w_indexAddr (.sl 1) H10 v9 v10)) fun v11 H11 =>
  guardP (boolIs false v7) H11 (outP CC H11 (w_load none H11 v11)) fun v12 H12 =>
  guardP (boolIs false v7) H12 (outP CC H12 (some (.val x56 H12))) fun v13 H13 =>
  guardP (boolIs false v7) H13 (outP CC H13 (some (.enter 29 [v8, v12]))) fun v14 H14 =>
  guardP (boolIs false v7) H14 (outP CC H14 (w_int .neq H14 v14 v13)) fun v15 H15 =>
  outP CC H15 (w_pick H15 v7 (.bool true) v15) fun v16 H16 =>
  condP v16
  (K (.bool false) H16)
  (outP CC H16 (w_int .add H16 x56 (.int .i64 1)) fun v17 H17 =>
  r0 (x8, x12, x55, v17) H17))
  (K (.bool true) H1)
theorem m_fieldfarelaw7_MeansStilltttttttthtbl_eq (K : AV → AH → Prop) (r0 : (AV × AV × AV × AV) → AH → Prop) (a : TE) (H : AH) : codeP PP CC (subC (bodyC PP 5) [1, 1, 1, 1, 1, 1, 1, 1, 0, 1, 0, 0]) (m_fieldfarelaw7_MeansStilltttttttthtb_k K r0) a H = m_fieldfarelaw7_MeansStilltttttttthtbl K r0 (a 8) (a 12) (a 55) (a 56) H :=
  by kernel_rfl
def m_fieldfarelaw7_MeansStilltttttttthtb (K : AV → AH → Prop) (x8 x12 x55 x56 : AV) (H : AH) : Prop :=
  loopP (fun (r0 : (AV × AV × AV × AV) → AH → Prop) (s : (AV × AV × AV × AV)) (H : AH) => m_fieldfarelaw7_MeansStilltttttttthtbl K r0 s.1 s.2.1 s.2.2.1 s.2.2.2 H) (x8, x12, x55, x56) H
theorem m_fieldfarelaw7_MeansStilltttttttthtb_eq (K : AV → AH → Prop) (a : TE) (H : AH) : codeP PP CC (subC (bodyC PP 5) [1, 1, 1, 1, 1, 1, 1, 1, 0, 1, 0]) (m_fieldfarelaw7_MeansStillttttttttht_k K) a H = m_fieldfarelaw7_MeansStilltttttttthtb K (a 8) (a 12) (a 55) (a 56) H :=
  have h1 : codeP PP CC (subC (bodyC PP 5) [1, 1, 1, 1, 1, 1, 1, 1, 0, 1, 0]) (m_fieldfarelaw7_MeansStillttttttttht_k K) a H = loopP (fun (rec : KE) => codeP PP CC (subC (bodyC PP 5) [1, 1, 1, 1, 1, 1, 1, 1, 0, 1, 0, 0]) (exP rec (m_fieldfarelaw7_MeansStillttttttttht_k K))) a H := by kernel_rfl
  have h2 := loopP_iso (F := fun (rec : KE) => codeP PP CC (subC (bodyC PP 5) [1, 1, 1, 1, 1, 1, 1, 1, 0, 1, 0, 0]) (exP rec (m_fieldfarelaw7_MeansStillttttttttht_k K))) (S := (AV × AV × AV × AV)) (fun a => (a 8, a 12, a 55, a 56)) (fun (r0 : (AV × AV × AV × AV) → AH → Prop) (s : (AV × AV × AV × AV)) (H : AH) => m_fieldfarelaw7_MeansStilltttttttthtbl K r0 s.1 s.2.1 s.2.2.1 s.2.2.2 H) (fun (r0 : (AV × AV × AV × AV) → AH → Prop) (a : TE) (H : AH) => (show codeP PP CC (subC (bodyC PP 5) [1, 1, 1, 1, 1, 1, 1, 1, 0, 1, 0, 0]) (exP (fun (a : TE) (H : AH) => r0 (a 8, a 12, a 55, a 56) H) (m_fieldfarelaw7_MeansStillttttttttht_k K)) a H = codeP PP CC (subC (bodyC PP 5) [1, 1, 1, 1, 1, 1, 1, 1, 0, 1, 0, 0]) (m_fieldfarelaw7_MeansStilltttttttthtb_k K r0) a H from by kernel_rfl).trans (m_fieldfarelaw7_MeansStilltttttttthtbl_eq K r0 a H)) a H
  h1.trans h2
theorem m_fieldfarelaw7_MeansStillttttttttht_eq (K : AV → AH → Prop) (a : TE) (H : AH) : codeP PP CC (subC (bodyC PP 5) [1, 1, 1, 1, 1, 1, 1, 1, 0, 1]) (m_fieldfarelaw7_MeansStilltttttttt_k K) a H = m_fieldfarelaw7_MeansStilltttttttthtb K (a 8) (a 12) (a 55) (a 56) H :=
  have h1 : codeP PP CC (subC (bodyC PP 5) [1, 1, 1, 1, 1, 1, 1, 1, 0, 1]) (m_fieldfarelaw7_MeansStilltttttttt_k K) a H = codeP PP CC (subC (bodyC PP 5) [1, 1, 1, 1, 1, 1, 1, 1, 0, 1, 0]) (m_fieldfarelaw7_MeansStillttttttttht_k K) a H := by kernel_rfl
  h1.trans (m_fieldfarelaw7_MeansStilltttttttthtb_eq K a H)
abbrev m_fieldfarelaw7_MeansStilltttttttth_k (K : AV → AH → Prop) : KP := exP (fun (a : TE) (H : AH) => m_fieldfarelaw7_MeansStilltttttttthtb K (a 8) (a 12) (a 55) (a 56) H) (m_fieldfarelaw7_MeansStilltttttttt_k K)
def m_fieldfarelaw7_MeansStilltttttttth (K : AV → AH → Prop) (x8 x12 : AV) (H : AH) : Prop :=
  outP CC H (w_len PP 36 H x12) fun v1 H1 =>
  m_fieldfarelaw7_MeansStilltttttttthtb K x8 x12 v1 (.int .i64 0) H1
theorem m_fieldfarelaw7_MeansStilltttttttth_eq (K : AV → AH → Prop) (a : TE) (H : AH) : codeP PP CC (subC (bodyC PP 5) [1, 1, 1, 1, 1, 1, 1, 1, 0]) (m_fieldfarelaw7_MeansStilltttttttt_k K) a H = m_fieldfarelaw7_MeansStilltttttttth K (a 8) (a 12) H :=
  have h1 : codeP PP CC (subC (bodyC PP 5) [1, 1, 1, 1, 1, 1, 1, 1, 0]) (m_fieldfarelaw7_MeansStilltttttttt_k K) a H = codeP PP CC (subC (bodyC PP 5) [1, 1, 1, 1, 1, 1, 1, 1, 0, 0]) (exP (codeP PP CC (subC (bodyC PP 5) [1, 1, 1, 1, 1, 1, 1, 1, 0, 1]) (m_fieldfarelaw7_MeansStilltttttttt_k K)) (m_fieldfarelaw7_MeansStilltttttttt_k K)) a H := by kernel_rfl
  have h2 : codeP PP CC (subC (bodyC PP 5) [1, 1, 1, 1, 1, 1, 1, 1, 0, 0]) (exP (codeP PP CC (subC (bodyC PP 5) [1, 1, 1, 1, 1, 1, 1, 1, 0, 1]) (m_fieldfarelaw7_MeansStilltttttttt_k K)) (m_fieldfarelaw7_MeansStilltttttttt_k K)) a H = codeP PP CC (subC (bodyC PP 5) [1, 1, 1, 1, 1, 1, 1, 1, 0, 0]) (exP (fun (a : TE) (H : AH) => m_fieldfarelaw7_MeansStilltttttttthtb K (a 8) (a 12) (a 55) (a 56) H) (m_fieldfarelaw7_MeansStilltttttttt_k K)) a H := congrArg (fun k : KE => codeP PP CC (subC (bodyC PP 5) [1, 1, 1, 1, 1, 1, 1, 1, 0, 0]) (exP k (m_fieldfarelaw7_MeansStilltttttttt_k K)) a H) (funext fun a => funext fun H => m_fieldfarelaw7_MeansStillttttttttht_eq K a H)
  have h2b : codeP PP CC (subC (bodyC PP 5) [1, 1, 1, 1, 1, 1, 1, 1, 0, 0]) (exP (fun (a : TE) (H : AH) => m_fieldfarelaw7_MeansStilltttttttthtb K (a 8) (a 12) (a 55) (a 56) H) (m_fieldfarelaw7_MeansStilltttttttt_k K)) a H = codeP PP CC (subC (bodyC PP 5) [1, 1, 1, 1, 1, 1, 1, 1, 0, 0]) (m_fieldfarelaw7_MeansStilltttttttth_k K) a H := by kernel_rfl
  have h3 : codeP PP CC (subC (bodyC PP 5) [1, 1, 1, 1, 1, 1, 1, 1, 0, 0]) (m_fieldfarelaw7_MeansStilltttttttth_k K) a H = m_fieldfarelaw7_MeansStilltttttttth K (a 8) (a 12) H := by kernel_rfl
  ((h1.trans h2).trans h2b).trans h3
theorem m_fieldfarelaw7_MeansStilltttttttt_eq (K : AV → AH → Prop) (a : TE) (H : AH) : codeP PP CC (subC (bodyC PP 5) [1, 1, 1, 1, 1, 1, 1, 1]) (m_fieldfarelaw7_MeansStill_K K) a H = m_fieldfarelaw7_MeansStilltttttttth K (a 8) (a 12) H :=
  have h1 : codeP PP CC (subC (bodyC PP 5) [1, 1, 1, 1, 1, 1, 1, 1]) (m_fieldfarelaw7_MeansStill_K K) a H = codeP PP CC (subC (bodyC PP 5) [1, 1, 1, 1, 1, 1, 1, 1, 0]) (m_fieldfarelaw7_MeansStilltttttttt_k K) a H := by kernel_rfl
  h1.trans (m_fieldfarelaw7_MeansStilltttttttth_eq K a H)
abbrev m_fieldfarelaw7_MeansStillttttttt_k (K : AV → AH → Prop) : KP := exP (fun (a : TE) (H : AH) => m_fieldfarelaw7_MeansStilltttttttth K (a 8) (a 12) H) (m_fieldfarelaw7_MeansStill_K K)
def m_fieldfarelaw7_MeansStillttttttt (K : AV → AH → Prop) (x8 x12 : AV) (H : AH) : Prop :=
  outP CC H (w_len PP 36 H x12) fun v1 H1 =>
  outP CC H1 (w_len PP 36 H1 x8) fun v2 H2 =>
  outP CC H2 (w_int .neq H2 v1 v2) fun v3 H3 =>
  condP v3
  (K (.bool false) H3)
  (m_fieldfarelaw7_MeansStilltttttttth K x8 x12 H3)
theorem m_fieldfarelaw7_MeansStillttttttt_eq (K : AV → AH → Prop) (a : TE) (H : AH) : codeP PP CC (subC (bodyC PP 5) [1, 1, 1, 1, 1, 1, 1]) (m_fieldfarelaw7_MeansStill_K K) a H = m_fieldfarelaw7_MeansStillttttttt K (a 8) (a 12) H :=
  have h1 : codeP PP CC (subC (bodyC PP 5) [1, 1, 1, 1, 1, 1, 1]) (m_fieldfarelaw7_MeansStill_K K) a H = codeP PP CC (subC (bodyC PP 5) [1, 1, 1, 1, 1, 1, 1, 0]) (exP (codeP PP CC (subC (bodyC PP 5) [1, 1, 1, 1, 1, 1, 1, 1]) (m_fieldfarelaw7_MeansStill_K K)) (m_fieldfarelaw7_MeansStill_K K)) a H := by kernel_rfl
  have h2 : codeP PP CC (subC (bodyC PP 5) [1, 1, 1, 1, 1, 1, 1, 0]) (exP (codeP PP CC (subC (bodyC PP 5) [1, 1, 1, 1, 1, 1, 1, 1]) (m_fieldfarelaw7_MeansStill_K K)) (m_fieldfarelaw7_MeansStill_K K)) a H = codeP PP CC (subC (bodyC PP 5) [1, 1, 1, 1, 1, 1, 1, 0]) (exP (fun (a : TE) (H : AH) => m_fieldfarelaw7_MeansStilltttttttth K (a 8) (a 12) H) (m_fieldfarelaw7_MeansStill_K K)) a H := congrArg (fun k : KE => codeP PP CC (subC (bodyC PP 5) [1, 1, 1, 1, 1, 1, 1, 0]) (exP k (m_fieldfarelaw7_MeansStill_K K)) a H) (funext fun a => funext fun H => m_fieldfarelaw7_MeansStilltttttttt_eq K a H)
  have h2b : codeP PP CC (subC (bodyC PP 5) [1, 1, 1, 1, 1, 1, 1, 0]) (exP (fun (a : TE) (H : AH) => m_fieldfarelaw7_MeansStilltttttttth K (a 8) (a 12) H) (m_fieldfarelaw7_MeansStill_K K)) a H = codeP PP CC (subC (bodyC PP 5) [1, 1, 1, 1, 1, 1, 1, 0]) (m_fieldfarelaw7_MeansStillttttttt_k K) a H := by kernel_rfl
  have h3 : codeP PP CC (subC (bodyC PP 5) [1, 1, 1, 1, 1, 1, 1, 0]) (m_fieldfarelaw7_MeansStillttttttt_k K) a H = m_fieldfarelaw7_MeansStillttttttt K (a 8) (a 12) H := by kernel_rfl
  ((h1.trans h2).trans h2b).trans h3
abbrev m_fieldfarelaw7_MeansStilltttttt_k (K : AV → AH → Prop) : KP := exP (fun (a : TE) (H : AH) => m_fieldfarelaw7_MeansStillttttttt K (a 8) (a 12) H) (m_fieldfarelaw7_MeansStill_K K)
def m_fieldfarelaw7_MeansStilltttttt (K : AV → AH → Prop) (x2 x8 : AV) (H : AH) : Prop :=
  outP CC H (some (.enter 22 [(.int .i64 16), x2, x8])) fun v1 H1 =>
  m_fieldfarelaw7_MeansStillttttttt K x8 v1 H1
theorem m_fieldfarelaw7_MeansStilltttttt_eq (K : AV → AH → Prop) (a : TE) (H : AH) : codeP PP CC (subC (bodyC PP 5) [1, 1, 1, 1, 1, 1]) (m_fieldfarelaw7_MeansStill_K K) a H = m_fieldfarelaw7_MeansStilltttttt K (a 2) (a 8) H :=
  have h1 : codeP PP CC (subC (bodyC PP 5) [1, 1, 1, 1, 1, 1]) (m_fieldfarelaw7_MeansStill_K K) a H = codeP PP CC (subC (bodyC PP 5) [1, 1, 1, 1, 1, 1, 0]) (exP (codeP PP CC (subC (bodyC PP 5) [1, 1, 1, 1, 1, 1, 1]) (m_fieldfarelaw7_MeansStill_K K)) (m_fieldfarelaw7_MeansStill_K K)) a H := by kernel_rfl
  have h2 : codeP PP CC (subC (bodyC PP 5) [1, 1, 1, 1, 1, 1, 0]) (exP (codeP PP CC (subC (bodyC PP 5) [1, 1, 1, 1, 1, 1, 1]) (m_fieldfarelaw7_MeansStill_K K)) (m_fieldfarelaw7_MeansStill_K K)) a H = codeP PP CC (subC (bodyC PP 5) [1, 1, 1, 1, 1, 1, 0]) (exP (fun (a : TE) (H : AH) => m_fieldfarelaw7_MeansStillttttttt K (a 8) (a 12) H) (m_fieldfarelaw7_MeansStill_K K)) a H := congrArg (fun k : KE => codeP PP CC (subC (bodyC PP 5) [1, 1, 1, 1, 1, 1, 0]) (exP k (m_fieldfarelaw7_MeansStill_K K)) a H) (funext fun a => funext fun H => m_fieldfarelaw7_MeansStillttttttt_eq K a H)
  have h2b : codeP PP CC (subC (bodyC PP 5) [1, 1, 1, 1, 1, 1, 0]) (exP (fun (a : TE) (H : AH) => m_fieldfarelaw7_MeansStillttttttt K (a 8) (a 12) H) (m_fieldfarelaw7_MeansStill_K K)) a H = codeP PP CC (subC (bodyC PP 5) [1, 1, 1, 1, 1, 1, 0]) (m_fieldfarelaw7_MeansStilltttttt_k K) a H := by kernel_rfl
  have h3 : codeP PP CC (subC (bodyC PP 5) [1, 1, 1, 1, 1, 1, 0]) (m_fieldfarelaw7_MeansStilltttttt_k K) a H = m_fieldfarelaw7_MeansStilltttttt K (a 2) (a 8) H := by kernel_rfl
  ((h1.trans h2).trans h2b).trans h3
abbrev m_fieldfarelaw7_MeansStillttttt_k (K : AV → AH → Prop) : KP := exP (fun (a : TE) (H : AH) => m_fieldfarelaw7_MeansStilltttttt K (a 2) (a 8) H) (m_fieldfarelaw7_MeansStill_K K)
abbrev m_fieldfarelaw7_MeansStilltttttht_k (K : AV → AH → Prop) : KP := blockP 0 (m_fieldfarelaw7_MeansStillttttt_k K)
abbrev m_fieldfarelaw7_MeansStillttttthtb_k (K : AV → AH → Prop) (r0 : (AV × AV × AV × AV × AV) → AH → Prop) : KP := exP (fun (a : TE) (H : AH) => r0 (a 2, a 8, a 21, a 22, a 23) H) (m_fieldfarelaw7_MeansStilltttttht_k K)
def m_fieldfarelaw7_MeansStillttttthtbl (K : AV → AH → Prop) (r0 : (AV × AV × AV × AV × AV) → AH → Prop) (x2 x8 x21 x22 x23 : AV) (H : AH) : Prop :=
  outP CC H (w_int .lss H x23 x22) fun v1 H1 =>
  condP v1
  (outP CC H1 (w_indexAddr (.sl 1) H1 x21 x23) fun v2 H2 =>
  outP CC H2 (w_load none H2 v2) fun v3 H3 =>
  outP CC H3 (some (.enter 29 [x8, v3])) fun v4 H4 =>
  outP CC H4 (w_int .lss H4 v4 (.int .i64 0)) fun v5 H5 =>
  guardP (boolIs false v5) H5 (outP CC H5 (some (.val x8 H5))) fun v6 H6 =>
  guardP (boolIs false v5) H6 (outP CC H6 (some (.val v4 H6))) fun v7 H7 =>
  guardP (boolIs false v5) H7 (outP CC H7 (w_indexAddr (.sl 1) H7 v6 v7)) fun v8 H8 =>
  guardP (boolIs false v5) H8 (outP CC H8 (w_load none H8 v8)) fun v9 H9 =>
  guardP (boolIs false v5) H9 (outP CC H9 (some (.val v3 H9))) fun v10 H10 =>
  guardP (boolIs false v5) H10 (outP CC H10 (some (.enter 24 [v9, v10]))) fun v11 H11 =>
  guardP (boolIs false v5) H11 (outP CC H11 (w_un .not H11 v11)) fun v12 H12 =>
  outP CC H12 (w_pick H12 v5 (.bool true) v12) fun v13 H13 =>
  condP v13
  (outP CC H13 (w_buildSlice PP 38 1 H13 [(0, v3)] none) fun v14 H14 =>
  outP CC H14 (w_append 38 1 24 H14 x8 v14 none) fun v15 H15 =>
  outP CC H15 (w_int .add H15 x23 (.int .i64 1)) fun v16 H16 =>
  r0 (x2, v15, x21, x22, v16) H16)
  (outP CC H13 (w_int .add H13 x23 (.int .i64 1)) fun v17 H17 =>
  r0 (x2, x8, x21, x22, v17) H17))
  (m_fieldfarelaw7_MeansStilltttttt K x2 x8 H1)
theorem m_fieldfarelaw7_MeansStillttttthtbl_eq (K : AV → AH → Prop) (r0 : (AV × AV × AV × AV × AV) → AH → Prop) (a : TE) (H : AH) : codeP PP CC (subC (bodyC PP 5) [1, 1, 1, 1, 1, 0, 1, 0, 0]) (m_fieldfarelaw7_MeansStillttttthtb_k K r0) a H = m_fieldfarelaw7_MeansStillttttthtbl K r0 (a 2) (a 8) (a 21) (a 22) (a 23) H :=
  by kernel_rfl
def m_fieldfarelaw7_MeansStillttttthtb (K : AV → AH → Prop) (x2 x8 x21 x22 x23 : AV) (H : AH) : Prop :=
  loopP (fun (r0 : (AV × AV × AV × AV × AV) → AH → Prop) (s : (AV × AV × AV × AV × AV)) (H : AH) => m_fieldfarelaw7_MeansStillttttthtbl K r0 s.1 s.2.1 s.2.2.1 s.2.2.2.1 s.2.2.2.2 H) (x2, x8, x21, x22, x23) H
theorem m_fieldfarelaw7_MeansStillttttthtb_eq (K : AV → AH → Prop) (a : TE) (H : AH) : codeP PP CC (subC (bodyC PP 5) [1, 1, 1, 1, 1, 0, 1, 0]) (m_fieldfarelaw7_MeansStilltttttht_k K) a H = m_fieldfarelaw7_MeansStillttttthtb K (a 2) (a 8) (a 21) (a 22) (a 23) H :=
  have h1 : codeP PP CC (subC (bodyC PP 5) [1, 1, 1, 1, 1, 0, 1, 0]) (m_fieldfarelaw7_MeansStilltttttht_k K) a H = loopP (fun (rec : KE) => codeP PP CC (subC (bodyC PP 5) [1, 1, 1, 1, 1, 0, 1, 0, 0]) (exP rec (m_fieldfarelaw7_MeansStilltttttht_k K))) a H := by kernel_rfl
  have h2 := loopP_iso (F := fun (rec : KE) => codeP PP CC (subC (bodyC PP 5) [1, 1, 1, 1, 1, 0, 1, 0, 0]) (exP rec (m_fieldfarelaw7_MeansStilltttttht_k K))) (S := (AV × AV × AV × AV × AV)) (fun a => (a 2, a 8, a 21, a 22, a 23)) (fun (r0 : (AV × AV × AV × AV × AV) → AH → Prop) (s : (AV × AV × AV × AV × AV)) (H : AH) => m_fieldfarelaw7_MeansStillttttthtbl K r0 s.1 s.2.1 s.2.2.1 s.2.2.2.1 s.2.2.2.2 H) (fun (r0 : (AV × AV × AV × AV × AV) → AH → Prop) (a : TE) (H : AH) => (show codeP PP CC (subC (bodyC PP 5) [1, 1, 1, 1, 1, 0, 1, 0, 0]) (exP (fun (a : TE) (H : AH) => r0 (a 2, a 8, a 21, a 22, a 23) H) (m_fieldfarelaw7_MeansStilltttttht_k K)) a H = codeP PP CC (subC (bodyC PP 5) [1, 1, 1, 1, 1, 0, 1, 0, 0]) (m_fieldfarelaw7_MeansStillttttthtb_k K r0) a H from by kernel_rfl).trans (m_fieldfarelaw7_MeansStillttttthtbl_eq K r0 a H)) a H
  h1.trans h2
theorem m_fieldfarelaw7_MeansStilltttttht_eq (K : AV → AH → Prop) (a : TE) (H : AH) : codeP PP CC (subC (bodyC PP 5) [1, 1, 1, 1, 1, 0, 1]) (m_fieldfarelaw7_MeansStillttttt_k K) a H = m_fieldfarelaw7_MeansStillttttthtb K (a 2) (a 8) (a 21) (a 22) (a 23) H :=
  have h1 : codeP PP CC (subC (bodyC PP 5) [1, 1, 1, 1, 1, 0, 1]) (m_fieldfarelaw7_MeansStillttttt_k K) a H = codeP PP CC (subC (bodyC PP 5) [1, 1, 1, 1, 1, 0, 1, 0]) (m_fieldfarelaw7_MeansStilltttttht_k K) a H := by kernel_rfl
  h1.trans (m_fieldfarelaw7_MeansStillttttthtb_eq K a H)
abbrev m_fieldfarelaw7_MeansStillttttth_k (K : AV → AH → Prop) : KP := exP (fun (a : TE) (H : AH) => m_fieldfarelaw7_MeansStillttttthtb K (a 2) (a 8) (a 21) (a 22) (a 23) H) (m_fieldfarelaw7_MeansStillttttt_k K)
def m_fieldfarelaw7_MeansStillttttth (K : AV → AH → Prop) (x0 x1 x2 x8 : AV) (H : AH) : Prop :=
  outP CC H (some (.enter 21 [x1, x0, (.int .i64 16)])) fun v1 H1 =>
  outP CC H1 (w_len PP 36 H1 v1) fun v2 H2 =>
  m_fieldfarelaw7_MeansStillttttthtb K x2 x8 v1 v2 (.int .i64 0) H2
theorem m_fieldfarelaw7_MeansStillttttth_eq (K : AV → AH → Prop) (a : TE) (H : AH) : codeP PP CC (subC (bodyC PP 5) [1, 1, 1, 1, 1, 0]) (m_fieldfarelaw7_MeansStillttttt_k K) a H = m_fieldfarelaw7_MeansStillttttth K (a 0) (a 1) (a 2) (a 8) H :=
  have h1 : codeP PP CC (subC (bodyC PP 5) [1, 1, 1, 1, 1, 0]) (m_fieldfarelaw7_MeansStillttttt_k K) a H = codeP PP CC (subC (bodyC PP 5) [1, 1, 1, 1, 1, 0, 0]) (exP (codeP PP CC (subC (bodyC PP 5) [1, 1, 1, 1, 1, 0, 1]) (m_fieldfarelaw7_MeansStillttttt_k K)) (m_fieldfarelaw7_MeansStillttttt_k K)) a H := by kernel_rfl
  have h2 : codeP PP CC (subC (bodyC PP 5) [1, 1, 1, 1, 1, 0, 0]) (exP (codeP PP CC (subC (bodyC PP 5) [1, 1, 1, 1, 1, 0, 1]) (m_fieldfarelaw7_MeansStillttttt_k K)) (m_fieldfarelaw7_MeansStillttttt_k K)) a H = codeP PP CC (subC (bodyC PP 5) [1, 1, 1, 1, 1, 0, 0]) (exP (fun (a : TE) (H : AH) => m_fieldfarelaw7_MeansStillttttthtb K (a 2) (a 8) (a 21) (a 22) (a 23) H) (m_fieldfarelaw7_MeansStillttttt_k K)) a H := congrArg (fun k : KE => codeP PP CC (subC (bodyC PP 5) [1, 1, 1, 1, 1, 0, 0]) (exP k (m_fieldfarelaw7_MeansStillttttt_k K)) a H) (funext fun a => funext fun H => m_fieldfarelaw7_MeansStilltttttht_eq K a H)
  have h2b : codeP PP CC (subC (bodyC PP 5) [1, 1, 1, 1, 1, 0, 0]) (exP (fun (a : TE) (H : AH) => m_fieldfarelaw7_MeansStillttttthtb K (a 2) (a 8) (a 21) (a 22) (a 23) H) (m_fieldfarelaw7_MeansStillttttt_k K)) a H = codeP PP CC (subC (bodyC PP 5) [1, 1, 1, 1, 1, 0, 0]) (m_fieldfarelaw7_MeansStillttttth_k K) a H := by kernel_rfl
  have h3 : codeP PP CC (subC (bodyC PP 5) [1, 1, 1, 1, 1, 0, 0]) (m_fieldfarelaw7_MeansStillttttth_k K) a H = m_fieldfarelaw7_MeansStillttttth K (a 0) (a 1) (a 2) (a 8) H := by kernel_rfl
  ((h1.trans h2).trans h2b).trans h3
theorem m_fieldfarelaw7_MeansStillttttt_eq (K : AV → AH → Prop) (a : TE) (H : AH) : codeP PP CC (subC (bodyC PP 5) [1, 1, 1, 1, 1]) (m_fieldfarelaw7_MeansStill_K K) a H = m_fieldfarelaw7_MeansStillttttth K (a 0) (a 1) (a 2) (a 8) H :=
  have h1 : codeP PP CC (subC (bodyC PP 5) [1, 1, 1, 1, 1]) (m_fieldfarelaw7_MeansStill_K K) a H = codeP PP CC (subC (bodyC PP 5) [1, 1, 1, 1, 1, 0]) (exP (codeP PP CC (subC (bodyC PP 5) [1, 1, 1, 1, 1, 1]) (m_fieldfarelaw7_MeansStill_K K)) (m_fieldfarelaw7_MeansStill_K K)) a H := by kernel_rfl
  have h2 : codeP PP CC (subC (bodyC PP 5) [1, 1, 1, 1, 1, 0]) (exP (codeP PP CC (subC (bodyC PP 5) [1, 1, 1, 1, 1, 1]) (m_fieldfarelaw7_MeansStill_K K)) (m_fieldfarelaw7_MeansStill_K K)) a H = codeP PP CC (subC (bodyC PP 5) [1, 1, 1, 1, 1, 0]) (exP (fun (a : TE) (H : AH) => m_fieldfarelaw7_MeansStilltttttt K (a 2) (a 8) H) (m_fieldfarelaw7_MeansStill_K K)) a H := congrArg (fun k : KE => codeP PP CC (subC (bodyC PP 5) [1, 1, 1, 1, 1, 0]) (exP k (m_fieldfarelaw7_MeansStill_K K)) a H) (funext fun a => funext fun H => m_fieldfarelaw7_MeansStilltttttt_eq K a H)
  have h2b : codeP PP CC (subC (bodyC PP 5) [1, 1, 1, 1, 1, 0]) (exP (fun (a : TE) (H : AH) => m_fieldfarelaw7_MeansStilltttttt K (a 2) (a 8) H) (m_fieldfarelaw7_MeansStill_K K)) a H = codeP PP CC (subC (bodyC PP 5) [1, 1, 1, 1, 1, 0]) (m_fieldfarelaw7_MeansStillttttt_k K) a H := by kernel_rfl
  ((h1.trans h2).trans h2b).trans (m_fieldfarelaw7_MeansStillttttth_eq K a H)
abbrev m_fieldfarelaw7_MeansStilltttt_k (K : AV → AH → Prop) : KP := exP (fun (a : TE) (H : AH) => m_fieldfarelaw7_MeansStillttttth K (a 0) (a 1) (a 2) (a 8) H) (m_fieldfarelaw7_MeansStill_K K)
def m_fieldfarelaw7_MeansStilltttt (K : AV → AH → Prop) (x0 x1 x2 : AV) (H : AH) : Prop :=
  m_fieldfarelaw7_MeansStillttttth K x0 x1 x2 (.slice none 0 0 true) H
theorem m_fieldfarelaw7_MeansStilltttt_eq (K : AV → AH → Prop) (a : TE) (H : AH) : codeP PP CC (subC (bodyC PP 5) [1, 1, 1, 1]) (m_fieldfarelaw7_MeansStill_K K) a H = m_fieldfarelaw7_MeansStilltttt K (a 0) (a 1) (a 2) H :=
  have h1 : codeP PP CC (subC (bodyC PP 5) [1, 1, 1, 1]) (m_fieldfarelaw7_MeansStill_K K) a H = codeP PP CC (subC (bodyC PP 5) [1, 1, 1, 1, 0]) (exP (codeP PP CC (subC (bodyC PP 5) [1, 1, 1, 1, 1]) (m_fieldfarelaw7_MeansStill_K K)) (m_fieldfarelaw7_MeansStill_K K)) a H := by kernel_rfl
  have h2 : codeP PP CC (subC (bodyC PP 5) [1, 1, 1, 1, 0]) (exP (codeP PP CC (subC (bodyC PP 5) [1, 1, 1, 1, 1]) (m_fieldfarelaw7_MeansStill_K K)) (m_fieldfarelaw7_MeansStill_K K)) a H = codeP PP CC (subC (bodyC PP 5) [1, 1, 1, 1, 0]) (exP (fun (a : TE) (H : AH) => m_fieldfarelaw7_MeansStillttttth K (a 0) (a 1) (a 2) (a 8) H) (m_fieldfarelaw7_MeansStill_K K)) a H := congrArg (fun k : KE => codeP PP CC (subC (bodyC PP 5) [1, 1, 1, 1, 0]) (exP k (m_fieldfarelaw7_MeansStill_K K)) a H) (funext fun a => funext fun H => m_fieldfarelaw7_MeansStillttttt_eq K a H)
  have h2b : codeP PP CC (subC (bodyC PP 5) [1, 1, 1, 1, 0]) (exP (fun (a : TE) (H : AH) => m_fieldfarelaw7_MeansStillttttth K (a 0) (a 1) (a 2) (a 8) H) (m_fieldfarelaw7_MeansStill_K K)) a H = codeP PP CC (subC (bodyC PP 5) [1, 1, 1, 1, 0]) (m_fieldfarelaw7_MeansStilltttt_k K) a H := by kernel_rfl
  have h3 : codeP PP CC (subC (bodyC PP 5) [1, 1, 1, 1, 0]) (m_fieldfarelaw7_MeansStilltttt_k K) a H = m_fieldfarelaw7_MeansStilltttt K (a 0) (a 1) (a 2) H := by kernel_rfl
  ((h1.trans h2).trans h2b).trans h3
abbrev m_fieldfarelaw7_MeansStillttt_k (K : AV → AH → Prop) : KP := exP (fun (a : TE) (H : AH) => m_fieldfarelaw7_MeansStilltttt K (a 0) (a 1) (a 2) H) (m_fieldfarelaw7_MeansStill_K K)
def m_fieldfarelaw7_MeansStillttt (K : AV → AH → Prop) (x0 x1 x2 : AV) (H : AH) : Prop :=
  outP CC H (some (.enter 20 [x0])) fun v1 H1 =>
  m_fieldfarelaw7_MeansStilltttt K v1 x1 x2 H1
theorem m_fieldfarelaw7_MeansStillttt_eq (K : AV → AH → Prop) (a : TE) (H : AH) : codeP PP CC (subC (bodyC PP 5) [1, 1, 1]) (m_fieldfarelaw7_MeansStill_K K) a H = m_fieldfarelaw7_MeansStillttt K (a 0) (a 1) (a 2) H :=
  have h1 : codeP PP CC (subC (bodyC PP 5) [1, 1, 1]) (m_fieldfarelaw7_MeansStill_K K) a H = codeP PP CC (subC (bodyC PP 5) [1, 1, 1, 0]) (exP (codeP PP CC (subC (bodyC PP 5) [1, 1, 1, 1]) (m_fieldfarelaw7_MeansStill_K K)) (m_fieldfarelaw7_MeansStill_K K)) a H := by kernel_rfl
  have h2 : codeP PP CC (subC (bodyC PP 5) [1, 1, 1, 0]) (exP (codeP PP CC (subC (bodyC PP 5) [1, 1, 1, 1]) (m_fieldfarelaw7_MeansStill_K K)) (m_fieldfarelaw7_MeansStill_K K)) a H = codeP PP CC (subC (bodyC PP 5) [1, 1, 1, 0]) (exP (fun (a : TE) (H : AH) => m_fieldfarelaw7_MeansStilltttt K (a 0) (a 1) (a 2) H) (m_fieldfarelaw7_MeansStill_K K)) a H := congrArg (fun k : KE => codeP PP CC (subC (bodyC PP 5) [1, 1, 1, 0]) (exP k (m_fieldfarelaw7_MeansStill_K K)) a H) (funext fun a => funext fun H => m_fieldfarelaw7_MeansStilltttt_eq K a H)
  have h2b : codeP PP CC (subC (bodyC PP 5) [1, 1, 1, 0]) (exP (fun (a : TE) (H : AH) => m_fieldfarelaw7_MeansStilltttt K (a 0) (a 1) (a 2) H) (m_fieldfarelaw7_MeansStill_K K)) a H = codeP PP CC (subC (bodyC PP 5) [1, 1, 1, 0]) (m_fieldfarelaw7_MeansStillttt_k K) a H := by kernel_rfl
  have h3 : codeP PP CC (subC (bodyC PP 5) [1, 1, 1, 0]) (m_fieldfarelaw7_MeansStillttt_k K) a H = m_fieldfarelaw7_MeansStillttt K (a 0) (a 1) (a 2) H := by kernel_rfl
  ((h1.trans h2).trans h2b).trans h3
abbrev m_fieldfarelaw7_MeansStilltt_k (K : AV → AH → Prop) : KP := exP (fun (a : TE) (H : AH) => m_fieldfarelaw7_MeansStillttt K (a 0) (a 1) (a 2) H) (m_fieldfarelaw7_MeansStill_K K)
def m_fieldfarelaw7_MeansStilltt (K : AV → AH → Prop) (x0 x1 x2 x7 : AV) (H : AH) : Prop :=
  outP CC H (w_un .not H x7) fun v1 H1 =>
  condP v1
  (K (.bool false) H1)
  (m_fieldfarelaw7_MeansStillttt K x0 x1 x2 H1)
theorem m_fieldfarelaw7_MeansStilltt_eq (K : AV → AH → Prop) (a : TE) (H : AH) : codeP PP CC (subC (bodyC PP 5) [1, 1]) (m_fieldfarelaw7_MeansStill_K K) a H = m_fieldfarelaw7_MeansStilltt K (a 0) (a 1) (a 2) (a 7) H :=
  have h1 : codeP PP CC (subC (bodyC PP 5) [1, 1]) (m_fieldfarelaw7_MeansStill_K K) a H = codeP PP CC (subC (bodyC PP 5) [1, 1, 0]) (exP (codeP PP CC (subC (bodyC PP 5) [1, 1, 1]) (m_fieldfarelaw7_MeansStill_K K)) (m_fieldfarelaw7_MeansStill_K K)) a H := by kernel_rfl
  have h2 : codeP PP CC (subC (bodyC PP 5) [1, 1, 0]) (exP (codeP PP CC (subC (bodyC PP 5) [1, 1, 1]) (m_fieldfarelaw7_MeansStill_K K)) (m_fieldfarelaw7_MeansStill_K K)) a H = codeP PP CC (subC (bodyC PP 5) [1, 1, 0]) (exP (fun (a : TE) (H : AH) => m_fieldfarelaw7_MeansStillttt K (a 0) (a 1) (a 2) H) (m_fieldfarelaw7_MeansStill_K K)) a H := congrArg (fun k : KE => codeP PP CC (subC (bodyC PP 5) [1, 1, 0]) (exP k (m_fieldfarelaw7_MeansStill_K K)) a H) (funext fun a => funext fun H => m_fieldfarelaw7_MeansStillttt_eq K a H)
  have h2b : codeP PP CC (subC (bodyC PP 5) [1, 1, 0]) (exP (fun (a : TE) (H : AH) => m_fieldfarelaw7_MeansStillttt K (a 0) (a 1) (a 2) H) (m_fieldfarelaw7_MeansStill_K K)) a H = codeP PP CC (subC (bodyC PP 5) [1, 1, 0]) (m_fieldfarelaw7_MeansStilltt_k K) a H := by kernel_rfl
  have h3 : codeP PP CC (subC (bodyC PP 5) [1, 1, 0]) (m_fieldfarelaw7_MeansStilltt_k K) a H = m_fieldfarelaw7_MeansStilltt K (a 0) (a 1) (a 2) (a 7) H := by kernel_rfl
  ((h1.trans h2).trans h2b).trans h3
abbrev m_fieldfarelaw7_MeansStillt_k (K : AV → AH → Prop) : KP := exP (fun (a : TE) (H : AH) => m_fieldfarelaw7_MeansStilltt K (a 0) (a 1) (a 2) (a 7) H) (m_fieldfarelaw7_MeansStill_K K)
def m_fieldfarelaw7_MeansStillt (K : AV → AH → Prop) (x0 x1 x2 : AV) (H : AH) : Prop :=
  outP CC H (some (.enter 11 [])) fun v1 H1 =>
  m_fieldfarelaw7_MeansStilltt K x0 x1 x2 v1 H1
theorem m_fieldfarelaw7_MeansStillt_eq (K : AV → AH → Prop) (a : TE) (H : AH) : codeP PP CC (subC (bodyC PP 5) [1]) (m_fieldfarelaw7_MeansStill_K K) a H = m_fieldfarelaw7_MeansStillt K (a 0) (a 1) (a 2) H :=
  have h1 : codeP PP CC (subC (bodyC PP 5) [1]) (m_fieldfarelaw7_MeansStill_K K) a H = codeP PP CC (subC (bodyC PP 5) [1, 0]) (exP (codeP PP CC (subC (bodyC PP 5) [1, 1]) (m_fieldfarelaw7_MeansStill_K K)) (m_fieldfarelaw7_MeansStill_K K)) a H := by kernel_rfl
  have h2 : codeP PP CC (subC (bodyC PP 5) [1, 0]) (exP (codeP PP CC (subC (bodyC PP 5) [1, 1]) (m_fieldfarelaw7_MeansStill_K K)) (m_fieldfarelaw7_MeansStill_K K)) a H = codeP PP CC (subC (bodyC PP 5) [1, 0]) (exP (fun (a : TE) (H : AH) => m_fieldfarelaw7_MeansStilltt K (a 0) (a 1) (a 2) (a 7) H) (m_fieldfarelaw7_MeansStill_K K)) a H := congrArg (fun k : KE => codeP PP CC (subC (bodyC PP 5) [1, 0]) (exP k (m_fieldfarelaw7_MeansStill_K K)) a H) (funext fun a => funext fun H => m_fieldfarelaw7_MeansStilltt_eq K a H)
  have h2b : codeP PP CC (subC (bodyC PP 5) [1, 0]) (exP (fun (a : TE) (H : AH) => m_fieldfarelaw7_MeansStilltt K (a 0) (a 1) (a 2) (a 7) H) (m_fieldfarelaw7_MeansStill_K K)) a H = codeP PP CC (subC (bodyC PP 5) [1, 0]) (m_fieldfarelaw7_MeansStillt_k K) a H := by kernel_rfl
  have h3 : codeP PP CC (subC (bodyC PP 5) [1, 0]) (m_fieldfarelaw7_MeansStillt_k K) a H = m_fieldfarelaw7_MeansStillt K (a 0) (a 1) (a 2) H := by kernel_rfl
  ((h1.trans h2).trans h2b).trans h3
abbrev m_fieldfarelaw7_MeansStill_k (K : AV → AH → Prop) : KP := exP (fun (a : TE) (H : AH) => m_fieldfarelaw7_MeansStillt K (a 0) (a 1) (a 2) H) (m_fieldfarelaw7_MeansStill_K K)
def m_fieldfarelaw7_MeansStill (K : AV → AH → Prop) (x0 x1 x2 : AV) (H : AH) : Prop :=
  m_fieldfarelaw7_MeansStillt K x0 x1 x2 H
theorem m_fieldfarelaw7_MeansStill_eq (K : AV → AH → Prop) (a : TE) (H : AH) : codeP PP CC (subC (bodyC PP 5) []) (m_fieldfarelaw7_MeansStill_K K) a H = m_fieldfarelaw7_MeansStill K (a 0) (a 1) (a 2) H :=
  have h1 : codeP PP CC (subC (bodyC PP 5) []) (m_fieldfarelaw7_MeansStill_K K) a H = codeP PP CC (subC (bodyC PP 5) [0]) (exP (codeP PP CC (subC (bodyC PP 5) [1]) (m_fieldfarelaw7_MeansStill_K K)) (m_fieldfarelaw7_MeansStill_K K)) a H := by kernel_rfl
  have h2 : codeP PP CC (subC (bodyC PP 5) [0]) (exP (codeP PP CC (subC (bodyC PP 5) [1]) (m_fieldfarelaw7_MeansStill_K K)) (m_fieldfarelaw7_MeansStill_K K)) a H = codeP PP CC (subC (bodyC PP 5) [0]) (exP (fun (a : TE) (H : AH) => m_fieldfarelaw7_MeansStillt K (a 0) (a 1) (a 2) H) (m_fieldfarelaw7_MeansStill_K K)) a H := congrArg (fun k : KE => codeP PP CC (subC (bodyC PP 5) [0]) (exP k (m_fieldfarelaw7_MeansStill_K K)) a H) (funext fun a => funext fun H => m_fieldfarelaw7_MeansStillt_eq K a H)
  have h2b : codeP PP CC (subC (bodyC PP 5) [0]) (exP (fun (a : TE) (H : AH) => m_fieldfarelaw7_MeansStillt K (a 0) (a 1) (a 2) H) (m_fieldfarelaw7_MeansStill_K K)) a H = codeP PP CC (subC (bodyC PP 5) [0]) (m_fieldfarelaw7_MeansStill_k K) a H := by kernel_rfl
  have h3 : codeP PP CC (subC (bodyC PP 5) [0]) (m_fieldfarelaw7_MeansStill_k K) a H = m_fieldfarelaw7_MeansStill K (a 0) (a 1) (a 2) H := by kernel_rfl
  ((h1.trans h2).trans h2b).trans h3
theorem m_fieldfarelaw7_MeansStill_ok (x0 x1 x2 : AV) (H : AH) (K : AV → AH → Prop) (h : m_fieldfarelaw7_MeansStill K x0 x1 x2 H) : CC.call 5 [x0, x1, x2] H K :=
  have h1 : funP PP CC 5 [x0, x1, x2] H K = codeP PP CC (subC (bodyC PP 5) []) (m_fieldfarelaw7_MeansStill_K K) (argE [x0, x1, x2]) H := by kernel_rfl
  have h2 : m_fieldfarelaw7_MeansStill K (argE [x0, x1, x2] 0) (argE [x0, x1, x2] 1) (argE [x0, x1, x2] 2) H = m_fieldfarelaw7_MeansStill K x0 x1 x2 H := by kernel_rfl
  funP_ok (P := PP) (by kernel_rfl) (by kernel_rfl) ((h1.trans ((m_fieldfarelaw7_MeansStill_eq K (argE [x0, x1, x2]) H).trans h2)).mpr h)

end
end Go.Ab
