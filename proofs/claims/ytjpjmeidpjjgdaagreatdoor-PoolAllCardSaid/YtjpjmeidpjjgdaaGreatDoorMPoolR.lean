/- What functions do, said as what the evaluator does. Printed by a program. -/
import Derived.Test.YtjpjmeidpjjgdaaGreatDoorBeg
import Derived.Test.YtjpjmeidpjjgdaaGreatDoorEv3
namespace Go.Ab
noncomputable section
open Go.Proofs
set_option maxRecDepth 100000



/-! 13: fieldfare/fieldfareref1.NewPool -/
abbrev m_fieldfareref1_NewPool_K (K : AV → AH → Prop) : KP := finP PP (resC PP 13) K
abbrev m_fieldfareref1_NewPooltt_k (K : AV → AH → Prop) : KP := exP (codeP PP CC (subC (bodyC PP 13) [1, 1, 1]) (m_fieldfareref1_NewPool_K K)) (m_fieldfareref1_NewPool_K K)
abbrev m_fieldfareref1_NewPoolttht_k (K : AV → AH → Prop) : KP := blockP 0 (m_fieldfareref1_NewPooltt_k K)
abbrev m_fieldfareref1_NewPooltthtb_k (K : AV → AH → Prop) (r0 : (AV × AV × AV) → AH → Prop) : KP := exP (fun (a : TE) (H : AH) => r0 (a 0, a 3, a 4) H) (m_fieldfareref1_NewPoolttht_k K)
def m_fieldfareref1_NewPooltthtbl (K : AV → AH → Prop) (r0 : (AV × AV × AV) → AH → Prop) (x0 x3 x4 : AV) (H : AH) : Prop :=
  outP CC H (w_min2 H x0 (.int .i64 1000)) fun v1 H1 =>
  outP CC H1 (w_max2 H1 (.int .i64 0) v1) fun v2 H2 =>
  outP CC H2 (w_int .lss H2 x4 v2) fun v3 H3 =>
  condP v3
  (outP CC H3 (w_nil H3 x3) fun v4 H4 =>
  outP CC H4 (w_fieldAddr 0 H4 v4) fun v5 H5 =>
  outP CC H5 (w_load none H5 v5) fun v6 H6 =>
  outP CC H6 (w_buildSlice PP 3 1 H6 [(0, (.int .i64 (-9223372036854775808)))] none) fun v7 H7 =>
  outP CC H7 (w_append 3 1 8 H7 v6 v7 none) fun v8 H8 =>
  outP CC H8 (w_nil H8 x3) fun v9 H9 =>
  outP CC H9 (w_fieldAddr 0 H9 v9) fun v10 H10 =>
  outP CC H10 (w_store 1 H10 v10 v8) fun _v11 H11 =>
  outP CC H11 (w_int .add H11 x4 (.int .i64 1)) fun v12 H12 =>
  r0 (x0, x3, v12) H12)
  (K x3 H3)
theorem m_fieldfareref1_NewPooltthtbl_eq (K : AV → AH → Prop) (r0 : (AV × AV × AV) → AH → Prop) (a : TE) (H : AH) : codeP PP CC (subC (bodyC PP 13) [1, 1, 0, 1, 0, 0]) (m_fieldfareref1_NewPooltthtb_k K r0) a H = m_fieldfareref1_NewPooltthtbl K r0 (a 0) (a 3) (a 4) H :=
  by kernel_rfl
def m_fieldfareref1_NewPooltthtb (K : AV → AH → Prop) (x0 x3 x4 : AV) (H : AH) : Prop :=
  loopP (fun (r0 : (AV × AV × AV) → AH → Prop) (s : (AV × AV × AV)) (H : AH) => m_fieldfareref1_NewPooltthtbl K r0 s.1 s.2.1 s.2.2 H) (x0, x3, x4) H
theorem m_fieldfareref1_NewPooltthtb_eq (K : AV → AH → Prop) (a : TE) (H : AH) : codeP PP CC (subC (bodyC PP 13) [1, 1, 0, 1, 0]) (m_fieldfareref1_NewPoolttht_k K) a H = m_fieldfareref1_NewPooltthtb K (a 0) (a 3) (a 4) H :=
  have h1 : codeP PP CC (subC (bodyC PP 13) [1, 1, 0, 1, 0]) (m_fieldfareref1_NewPoolttht_k K) a H = loopP (fun (rec : KE) => codeP PP CC (subC (bodyC PP 13) [1, 1, 0, 1, 0, 0]) (exP rec (m_fieldfareref1_NewPoolttht_k K))) a H := by kernel_rfl
  have h2 := loopP_iso (F := fun (rec : KE) => codeP PP CC (subC (bodyC PP 13) [1, 1, 0, 1, 0, 0]) (exP rec (m_fieldfareref1_NewPoolttht_k K))) (S := (AV × AV × AV)) (fun a => (a 0, a 3, a 4)) (fun (r0 : (AV × AV × AV) → AH → Prop) (s : (AV × AV × AV)) (H : AH) => m_fieldfareref1_NewPooltthtbl K r0 s.1 s.2.1 s.2.2 H) (fun (r0 : (AV × AV × AV) → AH → Prop) (a : TE) (H : AH) => (show codeP PP CC (subC (bodyC PP 13) [1, 1, 0, 1, 0, 0]) (exP (fun (a : TE) (H : AH) => r0 (a 0, a 3, a 4) H) (m_fieldfareref1_NewPoolttht_k K)) a H = codeP PP CC (subC (bodyC PP 13) [1, 1, 0, 1, 0, 0]) (m_fieldfareref1_NewPooltthtb_k K r0) a H from by kernel_rfl).trans (m_fieldfareref1_NewPooltthtbl_eq K r0 a H)) a H
  h1.trans h2
theorem m_fieldfareref1_NewPoolttht_eq (K : AV → AH → Prop) (a : TE) (H : AH) : codeP PP CC (subC (bodyC PP 13) [1, 1, 0, 1]) (m_fieldfareref1_NewPooltt_k K) a H = m_fieldfareref1_NewPooltthtb K (a 0) (a 3) (a 4) H :=
  have h1 : codeP PP CC (subC (bodyC PP 13) [1, 1, 0, 1]) (m_fieldfareref1_NewPooltt_k K) a H = codeP PP CC (subC (bodyC PP 13) [1, 1, 0, 1, 0]) (m_fieldfareref1_NewPoolttht_k K) a H := by kernel_rfl
  h1.trans (m_fieldfareref1_NewPooltthtb_eq K a H)
abbrev m_fieldfareref1_NewPooltth_k (K : AV → AH → Prop) : KP := exP (fun (a : TE) (H : AH) => m_fieldfareref1_NewPooltthtb K (a 0) (a 3) (a 4) H) (m_fieldfareref1_NewPooltt_k K)
def m_fieldfareref1_NewPooltth (K : AV → AH → Prop) (x0 x3 : AV) (H : AH) : Prop :=
  m_fieldfareref1_NewPooltthtb K x0 x3 (.int .i64 0) H
theorem m_fieldfareref1_NewPooltth_eq (K : AV → AH → Prop) (a : TE) (H : AH) : codeP PP CC (subC (bodyC PP 13) [1, 1, 0]) (m_fieldfareref1_NewPooltt_k K) a H = m_fieldfareref1_NewPooltth K (a 0) (a 3) H :=
  have h1 : codeP PP CC (subC (bodyC PP 13) [1, 1, 0]) (m_fieldfareref1_NewPooltt_k K) a H = codeP PP CC (subC (bodyC PP 13) [1, 1, 0, 0]) (exP (codeP PP CC (subC (bodyC PP 13) [1, 1, 0, 1]) (m_fieldfareref1_NewPooltt_k K)) (m_fieldfareref1_NewPooltt_k K)) a H := by kernel_rfl
  have h2 : codeP PP CC (subC (bodyC PP 13) [1, 1, 0, 0]) (exP (codeP PP CC (subC (bodyC PP 13) [1, 1, 0, 1]) (m_fieldfareref1_NewPooltt_k K)) (m_fieldfareref1_NewPooltt_k K)) a H = codeP PP CC (subC (bodyC PP 13) [1, 1, 0, 0]) (exP (fun (a : TE) (H : AH) => m_fieldfareref1_NewPooltthtb K (a 0) (a 3) (a 4) H) (m_fieldfareref1_NewPooltt_k K)) a H := congrArg (fun k : KE => codeP PP CC (subC (bodyC PP 13) [1, 1, 0, 0]) (exP k (m_fieldfareref1_NewPooltt_k K)) a H) (funext fun a => funext fun H => m_fieldfareref1_NewPoolttht_eq K a H)
  have h2b : codeP PP CC (subC (bodyC PP 13) [1, 1, 0, 0]) (exP (fun (a : TE) (H : AH) => m_fieldfareref1_NewPooltthtb K (a 0) (a 3) (a 4) H) (m_fieldfareref1_NewPooltt_k K)) a H = codeP PP CC (subC (bodyC PP 13) [1, 1, 0, 0]) (m_fieldfareref1_NewPooltth_k K) a H := by kernel_rfl
  have h3 : codeP PP CC (subC (bodyC PP 13) [1, 1, 0, 0]) (m_fieldfareref1_NewPooltth_k K) a H = m_fieldfareref1_NewPooltth K (a 0) (a 3) H := by kernel_rfl
  ((h1.trans h2).trans h2b).trans h3
theorem m_fieldfareref1_NewPooltt_eq (K : AV → AH → Prop) (a : TE) (H : AH) : codeP PP CC (subC (bodyC PP 13) [1, 1]) (m_fieldfareref1_NewPool_K K) a H = m_fieldfareref1_NewPooltth K (a 0) (a 3) H :=
  have h1 : codeP PP CC (subC (bodyC PP 13) [1, 1]) (m_fieldfareref1_NewPool_K K) a H = codeP PP CC (subC (bodyC PP 13) [1, 1, 0]) (m_fieldfareref1_NewPooltt_k K) a H := by kernel_rfl
  h1.trans (m_fieldfareref1_NewPooltth_eq K a H)
abbrev m_fieldfareref1_NewPoolt_k (K : AV → AH → Prop) : KP := exP (fun (a : TE) (H : AH) => m_fieldfareref1_NewPooltth K (a 0) (a 3) H) (m_fieldfareref1_NewPool_K K)
def m_fieldfareref1_NewPoolt (K : AV → AH → Prop) (x0 : AV) (H : AH) : Prop :=
  outP CC H (w_build PP 81 H []) fun v1 H1 =>
  outP CC H1 (w_box 81 H1 v1 none) fun v2 H2 =>
  m_fieldfareref1_NewPooltth K x0 v2 H2
theorem m_fieldfareref1_NewPoolt_eq (K : AV → AH → Prop) (a : TE) (H : AH) : codeP PP CC (subC (bodyC PP 13) [1]) (m_fieldfareref1_NewPool_K K) a H = m_fieldfareref1_NewPoolt K (a 0) H :=
  have h1 : codeP PP CC (subC (bodyC PP 13) [1]) (m_fieldfareref1_NewPool_K K) a H = codeP PP CC (subC (bodyC PP 13) [1, 0]) (exP (codeP PP CC (subC (bodyC PP 13) [1, 1]) (m_fieldfareref1_NewPool_K K)) (m_fieldfareref1_NewPool_K K)) a H := by kernel_rfl
  have h2 : codeP PP CC (subC (bodyC PP 13) [1, 0]) (exP (codeP PP CC (subC (bodyC PP 13) [1, 1]) (m_fieldfareref1_NewPool_K K)) (m_fieldfareref1_NewPool_K K)) a H = codeP PP CC (subC (bodyC PP 13) [1, 0]) (exP (fun (a : TE) (H : AH) => m_fieldfareref1_NewPooltth K (a 0) (a 3) H) (m_fieldfareref1_NewPool_K K)) a H := congrArg (fun k : KE => codeP PP CC (subC (bodyC PP 13) [1, 0]) (exP k (m_fieldfareref1_NewPool_K K)) a H) (funext fun a => funext fun H => m_fieldfareref1_NewPooltt_eq K a H)
  have h2b : codeP PP CC (subC (bodyC PP 13) [1, 0]) (exP (fun (a : TE) (H : AH) => m_fieldfareref1_NewPooltth K (a 0) (a 3) H) (m_fieldfareref1_NewPool_K K)) a H = codeP PP CC (subC (bodyC PP 13) [1, 0]) (m_fieldfareref1_NewPoolt_k K) a H := by kernel_rfl
  have h3 : codeP PP CC (subC (bodyC PP 13) [1, 0]) (m_fieldfareref1_NewPoolt_k K) a H = m_fieldfareref1_NewPoolt K (a 0) H := by kernel_rfl
  ((h1.trans h2).trans h2b).trans h3
abbrev m_fieldfareref1_NewPool_k (K : AV → AH → Prop) : KP := exP (fun (a : TE) (H : AH) => m_fieldfareref1_NewPoolt K (a 0) H) (m_fieldfareref1_NewPool_K K)
def m_fieldfareref1_NewPool (K : AV → AH → Prop) (x0 : AV) (H : AH) : Prop :=
  m_fieldfareref1_NewPoolt K x0 H
theorem m_fieldfareref1_NewPool_eq (K : AV → AH → Prop) (a : TE) (H : AH) : codeP PP CC (subC (bodyC PP 13) []) (m_fieldfareref1_NewPool_K K) a H = m_fieldfareref1_NewPool K (a 0) H :=
  have h1 : codeP PP CC (subC (bodyC PP 13) []) (m_fieldfareref1_NewPool_K K) a H = codeP PP CC (subC (bodyC PP 13) [0]) (exP (codeP PP CC (subC (bodyC PP 13) [1]) (m_fieldfareref1_NewPool_K K)) (m_fieldfareref1_NewPool_K K)) a H := by kernel_rfl
  have h2 : codeP PP CC (subC (bodyC PP 13) [0]) (exP (codeP PP CC (subC (bodyC PP 13) [1]) (m_fieldfareref1_NewPool_K K)) (m_fieldfareref1_NewPool_K K)) a H = codeP PP CC (subC (bodyC PP 13) [0]) (exP (fun (a : TE) (H : AH) => m_fieldfareref1_NewPoolt K (a 0) H) (m_fieldfareref1_NewPool_K K)) a H := congrArg (fun k : KE => codeP PP CC (subC (bodyC PP 13) [0]) (exP k (m_fieldfareref1_NewPool_K K)) a H) (funext fun a => funext fun H => m_fieldfareref1_NewPoolt_eq K a H)
  have h2b : codeP PP CC (subC (bodyC PP 13) [0]) (exP (fun (a : TE) (H : AH) => m_fieldfareref1_NewPoolt K (a 0) H) (m_fieldfareref1_NewPool_K K)) a H = codeP PP CC (subC (bodyC PP 13) [0]) (m_fieldfareref1_NewPool_k K) a H := by kernel_rfl
  have h3 : codeP PP CC (subC (bodyC PP 13) [0]) (m_fieldfareref1_NewPool_k K) a H = m_fieldfareref1_NewPool K (a 0) H := by kernel_rfl
  ((h1.trans h2).trans h2b).trans h3
theorem m_fieldfareref1_NewPool_ok (x0 : AV) (H : AH) (K : AV → AH → Prop) (h : m_fieldfareref1_NewPool K x0 H) : CC.call 13 [x0] H K :=
  have h1 : funP PP CC 13 [x0] H K = codeP PP CC (subC (bodyC PP 13) []) (m_fieldfareref1_NewPool_K K) (argE [x0]) H := by kernel_rfl
  have h2 : m_fieldfareref1_NewPool K (argE [x0] 0) H = m_fieldfareref1_NewPool K x0 H := by kernel_rfl
  funP_ok (P := PP) (by kernel_rfl) (by kernel_rfl) ((h1.trans ((m_fieldfareref1_NewPool_eq K (argE [x0]) H).trans h2)).mpr h)

/-! 15: (*fieldfare/fieldfareref1.Pool).Size -/
abbrev m_fieldfareref1_Pool_Size_K (K : AV → AH → Prop) : KP := finP PP (resC PP 15) K
abbrev m_fieldfareref1_Pool_Sizetttttt_k (K : AV → AH → Prop) : KP := exP (codeP PP CC (subC (bodyC PP 15) [1, 1, 1, 1, 1, 1, 1]) (m_fieldfareref1_Pool_Size_K K)) (m_fieldfareref1_Pool_Size_K K)
abbrev m_fieldfareref1_Pool_Sizettttttht_k (K : AV → AH → Prop) : KP := blockP 2 (m_fieldfareref1_Pool_Sizetttttt_k K)
abbrev m_fieldfareref1_Pool_Sizetttttthtb_k (K : AV → AH → Prop) (r0 : (AV × AV × AV × AV × AV × AV) → AH → Prop) : KP := exP (fun (a : TE) (H : AH) => r0 (a 0, a 1, a 2, a 7, a 9, a 10) H) (m_fieldfareref1_Pool_Sizettttttht_k K)
def m_fieldfareref1_Pool_Sizetttttthtbl (K : AV → AH → Prop) (r0 : (AV × AV × AV × AV × AV × AV) → AH → Prop) (x0 x1 x2 x7 x9 x10 : AV) (H : AH) : Prop :=
  outP CC H (w_len PP 33 H x7) fun v1 H1 =>
  outP CC H1 (w_int .sub H1 x2 v1) fun v2 H2 =>
  outP CC H2 (w_int .lss H2 x10 v2) fun v3 H3 =>
  condP v3
  (outP CC H3 (w_nil H3 x0) fun v4 H4 =>
  outP CC H4 (w_fieldAddr 0 H4 v4) fun v5 H5 =>
  outP CC H5 (w_load none H5 v5) fun v6 H6 =>
  outP CC H6 (w_indexAddr (.sl 1) H6 x9 x10) fun v7 H7 =>
  outP CC H7 (w_load none H7 v7) fun v8 H8 =>
  outP CC H8 (w_indexAddr (.sl 1) H8 v6 v8) fun v9 H9 =>
  outP CC H9 (w_store 1 H9 v9 x1) fun _v10 H10 =>
  outP CC H10 (w_int .add H10 x10 (.int .i64 1)) fun v11 H11 =>
  r0 (x0, x1, x2, x7, x9, v11) H11)
  (K (.int .i64 0) H3)
theorem m_fieldfareref1_Pool_Sizetttttthtbl_eq (K : AV → AH → Prop) (r0 : (AV × AV × AV × AV × AV × AV) → AH → Prop) (a : TE) (H : AH) : codeP PP CC (subC (bodyC PP 15) [1, 1, 1, 1, 1, 1, 0, 1, 0, 0]) (m_fieldfareref1_Pool_Sizetttttthtb_k K r0) a H = m_fieldfareref1_Pool_Sizetttttthtbl K r0 (a 0) (a 1) (a 2) (a 7) (a 9) (a 10) H :=
  by kernel_rfl
def m_fieldfareref1_Pool_Sizetttttthtb (K : AV → AH → Prop) (x0 x1 x2 x7 x9 x10 : AV) (H : AH) : Prop :=
  loopP (fun (r0 : (AV × AV × AV × AV × AV × AV) → AH → Prop) (s : (AV × AV × AV × AV × AV × AV)) (H : AH) => m_fieldfareref1_Pool_Sizetttttthtbl K r0 s.1 s.2.1 s.2.2.1 s.2.2.2.1 s.2.2.2.2.1 s.2.2.2.2.2 H) (x0, x1, x2, x7, x9, x10) H
theorem m_fieldfareref1_Pool_Sizetttttthtb_eq (K : AV → AH → Prop) (a : TE) (H : AH) : codeP PP CC (subC (bodyC PP 15) [1, 1, 1, 1, 1, 1, 0, 1, 0]) (m_fieldfareref1_Pool_Sizettttttht_k K) a H = m_fieldfareref1_Pool_Sizetttttthtb K (a 0) (a 1) (a 2) (a 7) (a 9) (a 10) H :=
  have h1 : codeP PP CC (subC (bodyC PP 15) [1, 1, 1, 1, 1, 1, 0, 1, 0]) (m_fieldfareref1_Pool_Sizettttttht_k K) a H = loopP (fun (rec : KE) => codeP PP CC (subC (bodyC PP 15) [1, 1, 1, 1, 1, 1, 0, 1, 0, 0]) (exP rec (m_fieldfareref1_Pool_Sizettttttht_k K))) a H := by kernel_rfl
  have h2 := loopP_iso (F := fun (rec : KE) => codeP PP CC (subC (bodyC PP 15) [1, 1, 1, 1, 1, 1, 0, 1, 0, 0]) (exP rec (m_fieldfareref1_Pool_Sizettttttht_k K))) (S := (AV × AV × AV × AV × AV × AV)) (fun a => (a 0, a 1, a 2, a 7, a 9, a 10)) (fun (r0 : (AV × AV × AV × AV × AV × AV) → AH → Prop) (s : (AV × AV × AV × AV × AV × AV)) (H : AH) => m_fieldfareref1_Pool_Sizetttttthtbl K r0 s.1 s.2.1 s.2.2.1 s.2.2.2.1 s.2.2.2.2.1 s.2.2.2.2.2 H) (fun (r0 : (AV × AV × AV × AV × AV × AV) → AH → Prop) (a : TE) (H : AH) => (show codeP PP CC (subC (bodyC PP 15) [1, 1, 1, 1, 1, 1, 0, 1, 0, 0]) (exP (fun (a : TE) (H : AH) => r0 (a 0, a 1, a 2, a 7, a 9, a 10) H) (m_fieldfareref1_Pool_Sizettttttht_k K)) a H = codeP PP CC (subC (bodyC PP 15) [1, 1, 1, 1, 1, 1, 0, 1, 0, 0]) (m_fieldfareref1_Pool_Sizetttttthtb_k K r0) a H from by kernel_rfl).trans (m_fieldfareref1_Pool_Sizetttttthtbl_eq K r0 a H)) a H
  h1.trans h2
theorem m_fieldfareref1_Pool_Sizettttttht_eq (K : AV → AH → Prop) (a : TE) (H : AH) : codeP PP CC (subC (bodyC PP 15) [1, 1, 1, 1, 1, 1, 0, 1]) (m_fieldfareref1_Pool_Sizetttttt_k K) a H = m_fieldfareref1_Pool_Sizetttttthtb K (a 0) (a 1) (a 2) (a 7) (a 9) (a 10) H :=
  have h1 : codeP PP CC (subC (bodyC PP 15) [1, 1, 1, 1, 1, 1, 0, 1]) (m_fieldfareref1_Pool_Sizetttttt_k K) a H = codeP PP CC (subC (bodyC PP 15) [1, 1, 1, 1, 1, 1, 0, 1, 0]) (m_fieldfareref1_Pool_Sizettttttht_k K) a H := by kernel_rfl
  h1.trans (m_fieldfareref1_Pool_Sizetttttthtb_eq K a H)
abbrev m_fieldfareref1_Pool_Sizetttttth_k (K : AV → AH → Prop) : KP := exP (fun (a : TE) (H : AH) => m_fieldfareref1_Pool_Sizetttttthtb K (a 0) (a 1) (a 2) (a 7) (a 9) (a 10) H) (m_fieldfareref1_Pool_Sizetttttt_k K)
def m_fieldfareref1_Pool_Sizetttttth (K : AV → AH → Prop) (x0 x1 x2 x7 x9 : AV) (H : AH) : Prop :=
  m_fieldfareref1_Pool_Sizetttttthtb K x0 x1 x2 x7 x9 (.int .i64 0) H
theorem m_fieldfareref1_Pool_Sizetttttth_eq (K : AV → AH → Prop) (a : TE) (H : AH) : codeP PP CC (subC (bodyC PP 15) [1, 1, 1, 1, 1, 1, 0]) (m_fieldfareref1_Pool_Sizetttttt_k K) a H = m_fieldfareref1_Pool_Sizetttttth K (a 0) (a 1) (a 2) (a 7) (a 9) H :=
  have h1 : codeP PP CC (subC (bodyC PP 15) [1, 1, 1, 1, 1, 1, 0]) (m_fieldfareref1_Pool_Sizetttttt_k K) a H = codeP PP CC (subC (bodyC PP 15) [1, 1, 1, 1, 1, 1, 0, 0]) (exP (codeP PP CC (subC (bodyC PP 15) [1, 1, 1, 1, 1, 1, 0, 1]) (m_fieldfareref1_Pool_Sizetttttt_k K)) (m_fieldfareref1_Pool_Sizetttttt_k K)) a H := by kernel_rfl
  have h2 : codeP PP CC (subC (bodyC PP 15) [1, 1, 1, 1, 1, 1, 0, 0]) (exP (codeP PP CC (subC (bodyC PP 15) [1, 1, 1, 1, 1, 1, 0, 1]) (m_fieldfareref1_Pool_Sizetttttt_k K)) (m_fieldfareref1_Pool_Sizetttttt_k K)) a H = codeP PP CC (subC (bodyC PP 15) [1, 1, 1, 1, 1, 1, 0, 0]) (exP (fun (a : TE) (H : AH) => m_fieldfareref1_Pool_Sizetttttthtb K (a 0) (a 1) (a 2) (a 7) (a 9) (a 10) H) (m_fieldfareref1_Pool_Sizetttttt_k K)) a H := congrArg (fun k : KE => codeP PP CC (subC (bodyC PP 15) [1, 1, 1, 1, 1, 1, 0, 0]) (exP k (m_fieldfareref1_Pool_Sizetttttt_k K)) a H) (funext fun a => funext fun H => m_fieldfareref1_Pool_Sizettttttht_eq K a H)
  have h2b : codeP PP CC (subC (bodyC PP 15) [1, 1, 1, 1, 1, 1, 0, 0]) (exP (fun (a : TE) (H : AH) => m_fieldfareref1_Pool_Sizetttttthtb K (a 0) (a 1) (a 2) (a 7) (a 9) (a 10) H) (m_fieldfareref1_Pool_Sizetttttt_k K)) a H = codeP PP CC (subC (bodyC PP 15) [1, 1, 1, 1, 1, 1, 0, 0]) (m_fieldfareref1_Pool_Sizetttttth_k K) a H := by kernel_rfl
  have h3 : codeP PP CC (subC (bodyC PP 15) [1, 1, 1, 1, 1, 1, 0, 0]) (m_fieldfareref1_Pool_Sizetttttth_k K) a H = m_fieldfareref1_Pool_Sizetttttth K (a 0) (a 1) (a 2) (a 7) (a 9) H := by kernel_rfl
  ((h1.trans h2).trans h2b).trans h3
theorem m_fieldfareref1_Pool_Sizetttttt_eq (K : AV → AH → Prop) (a : TE) (H : AH) : codeP PP CC (subC (bodyC PP 15) [1, 1, 1, 1, 1, 1]) (m_fieldfareref1_Pool_Size_K K) a H = m_fieldfareref1_Pool_Sizetttttth K (a 0) (a 1) (a 2) (a 7) (a 9) H :=
  have h1 : codeP PP CC (subC (bodyC PP 15) [1, 1, 1, 1, 1, 1]) (m_fieldfareref1_Pool_Size_K K) a H = codeP PP CC (subC (bodyC PP 15) [1, 1, 1, 1, 1, 1, 0]) (m_fieldfareref1_Pool_Sizetttttt_k K) a H := by kernel_rfl
  h1.trans (m_fieldfareref1_Pool_Sizetttttth_eq K a H)
abbrev m_fieldfareref1_Pool_Sizettttt_k (K : AV → AH → Prop) : KP := exP (fun (a : TE) (H : AH) => m_fieldfareref1_Pool_Sizetttttth K (a 0) (a 1) (a 2) (a 7) (a 9) H) (m_fieldfareref1_Pool_Size_K K)
def m_fieldfareref1_Pool_Sizettttt (K : AV → AH → Prop) (x0 x1 x2 x7 : AV) (H : AH) : Prop :=
  outP CC H (some (.enter 19 [x0, (.int .i64 (-9223372036854775808))])) fun v1 H1 =>
  m_fieldfareref1_Pool_Sizetttttth K x0 x1 x2 x7 v1 H1
theorem m_fieldfareref1_Pool_Sizettttt_eq (K : AV → AH → Prop) (a : TE) (H : AH) : codeP PP CC (subC (bodyC PP 15) [1, 1, 1, 1, 1]) (m_fieldfareref1_Pool_Size_K K) a H = m_fieldfareref1_Pool_Sizettttt K (a 0) (a 1) (a 2) (a 7) H :=
  have h1 : codeP PP CC (subC (bodyC PP 15) [1, 1, 1, 1, 1]) (m_fieldfareref1_Pool_Size_K K) a H = codeP PP CC (subC (bodyC PP 15) [1, 1, 1, 1, 1, 0]) (exP (codeP PP CC (subC (bodyC PP 15) [1, 1, 1, 1, 1, 1]) (m_fieldfareref1_Pool_Size_K K)) (m_fieldfareref1_Pool_Size_K K)) a H := by kernel_rfl
  have h2 : codeP PP CC (subC (bodyC PP 15) [1, 1, 1, 1, 1, 0]) (exP (codeP PP CC (subC (bodyC PP 15) [1, 1, 1, 1, 1, 1]) (m_fieldfareref1_Pool_Size_K K)) (m_fieldfareref1_Pool_Size_K K)) a H = codeP PP CC (subC (bodyC PP 15) [1, 1, 1, 1, 1, 0]) (exP (fun (a : TE) (H : AH) => m_fieldfareref1_Pool_Sizetttttth K (a 0) (a 1) (a 2) (a 7) (a 9) H) (m_fieldfareref1_Pool_Size_K K)) a H := congrArg (fun k : KE => codeP PP CC (subC (bodyC PP 15) [1, 1, 1, 1, 1, 0]) (exP k (m_fieldfareref1_Pool_Size_K K)) a H) (funext fun a => funext fun H => m_fieldfareref1_Pool_Sizetttttt_eq K a H)
  have h2b : codeP PP CC (subC (bodyC PP 15) [1, 1, 1, 1, 1, 0]) (exP (fun (a : TE) (H : AH) => m_fieldfareref1_Pool_Sizetttttth K (a 0) (a 1) (a 2) (a 7) (a 9) H) (m_fieldfareref1_Pool_Size_K K)) a H = codeP PP CC (subC (bodyC PP 15) [1, 1, 1, 1, 1, 0]) (m_fieldfareref1_Pool_Sizettttt_k K) a H := by kernel_rfl
  have h3 : codeP PP CC (subC (bodyC PP 15) [1, 1, 1, 1, 1, 0]) (m_fieldfareref1_Pool_Sizettttt_k K) a H = m_fieldfareref1_Pool_Sizettttt K (a 0) (a 1) (a 2) (a 7) H := by kernel_rfl
  ((h1.trans h2).trans h2b).trans h3
abbrev m_fieldfareref1_Pool_Sizetttt_k (K : AV → AH → Prop) : KP := exP (fun (a : TE) (H : AH) => m_fieldfareref1_Pool_Sizettttt K (a 0) (a 1) (a 2) (a 7) H) (m_fieldfareref1_Pool_Size_K K)
abbrev m_fieldfareref1_Pool_Sizettttht_k (K : AV → AH → Prop) : KP := blockP 0 (m_fieldfareref1_Pool_Sizetttt_k K)
abbrev m_fieldfareref1_Pool_Sizetttthtb_k (K : AV → AH → Prop) (r0 : (AV × AV × AV × AV × AV) → AH → Prop) : KP := exP (fun (a : TE) (H : AH) => r0 (a 0, a 1, a 2, a 7, a 8) H) (m_fieldfareref1_Pool_Sizettttht_k K)
def m_fieldfareref1_Pool_Sizetttthtbl (K : AV → AH → Prop) (r0 : (AV × AV × AV × AV × AV) → AH → Prop) (x0 x1 x2 x7 x8 : AV) (H : AH) : Prop :=
  outP CC H (w_len PP 33 H x7) fun v1 H1 =>
  outP CC H1 (w_int .lss H1 x8 v1) fun v2 H2 =>
  condP v2
  (outP CC H2 (w_nil H2 x0) fun v3 H3 =>
  outP CC H3 (w_fieldAddr 0 H3 v3) fun v4 H4 =>
  outP CC H4 (w_load none H4 v4) fun v5 H5 =>
  outP CC H5 (w_indexAddr (.sl 1) H5 x7 x8) fun v6 H6 =>
  outP CC H6 (w_load none H6 v6) fun v7 H7 =>
  outP CC H7 (w_indexAddr (.sl 1) H7 v5 v7) fun v8 H8 =>
  outP CC H8 (w_store 1 H8 v8 (.int .i64 (-9223372036854775808))) fun _v9 H9 =>
  outP CC H9 (w_int .add H9 x8 (.int .i64 1)) fun v10 H10 =>
  r0 (x0, x1, x2, x7, v10) H10)
  (m_fieldfareref1_Pool_Sizettttt K x0 x1 x2 x7 H2)
theorem m_fieldfareref1_Pool_Sizetttthtbl_eq (K : AV → AH → Prop) (r0 : (AV × AV × AV × AV × AV) → AH → Prop) (a : TE) (H : AH) : codeP PP CC (subC (bodyC PP 15) [1, 1, 1, 1, 0, 1, 0, 0]) (m_fieldfareref1_Pool_Sizetttthtb_k K r0) a H = m_fieldfareref1_Pool_Sizetttthtbl K r0 (a 0) (a 1) (a 2) (a 7) (a 8) H :=
  by kernel_rfl
def m_fieldfareref1_Pool_Sizetttthtb (K : AV → AH → Prop) (x0 x1 x2 x7 x8 : AV) (H : AH) : Prop :=
  loopP (fun (r0 : (AV × AV × AV × AV × AV) → AH → Prop) (s : (AV × AV × AV × AV × AV)) (H : AH) => m_fieldfareref1_Pool_Sizetttthtbl K r0 s.1 s.2.1 s.2.2.1 s.2.2.2.1 s.2.2.2.2 H) (x0, x1, x2, x7, x8) H
theorem m_fieldfareref1_Pool_Sizetttthtb_eq (K : AV → AH → Prop) (a : TE) (H : AH) : codeP PP CC (subC (bodyC PP 15) [1, 1, 1, 1, 0, 1, 0]) (m_fieldfareref1_Pool_Sizettttht_k K) a H = m_fieldfareref1_Pool_Sizetttthtb K (a 0) (a 1) (a 2) (a 7) (a 8) H :=
  have h1 : codeP PP CC (subC (bodyC PP 15) [1, 1, 1, 1, 0, 1, 0]) (m_fieldfareref1_Pool_Sizettttht_k K) a H = loopP (fun (rec : KE) => codeP PP CC (subC (bodyC PP 15) [1, 1, 1, 1, 0, 1, 0, 0]) (exP rec (m_fieldfareref1_Pool_Sizettttht_k K))) a H := by kernel_rfl
  have h2 := loopP_iso (F := fun (rec : KE) => codeP PP CC (subC (bodyC PP 15) [1, 1, 1, 1, 0, 1, 0, 0]) (exP rec (m_fieldfareref1_Pool_Sizettttht_k K))) (S := (AV × AV × AV × AV × AV)) (fun a => (a 0, a 1, a 2, a 7, a 8)) (fun (r0 : (AV × AV × AV × AV × AV) → AH → Prop) (s : (AV × AV × AV × AV × AV)) (H : AH) => m_fieldfareref1_Pool_Sizetttthtbl K r0 s.1 s.2.1 s.2.2.1 s.2.2.2.1 s.2.2.2.2 H) (fun (r0 : (AV × AV × AV × AV × AV) → AH → Prop) (a : TE) (H : AH) => (show codeP PP CC (subC (bodyC PP 15) [1, 1, 1, 1, 0, 1, 0, 0]) (exP (fun (a : TE) (H : AH) => r0 (a 0, a 1, a 2, a 7, a 8) H) (m_fieldfareref1_Pool_Sizettttht_k K)) a H = codeP PP CC (subC (bodyC PP 15) [1, 1, 1, 1, 0, 1, 0, 0]) (m_fieldfareref1_Pool_Sizetttthtb_k K r0) a H from by kernel_rfl).trans (m_fieldfareref1_Pool_Sizetttthtbl_eq K r0 a H)) a H
  h1.trans h2
theorem m_fieldfareref1_Pool_Sizettttht_eq (K : AV → AH → Prop) (a : TE) (H : AH) : codeP PP CC (subC (bodyC PP 15) [1, 1, 1, 1, 0, 1]) (m_fieldfareref1_Pool_Sizetttt_k K) a H = m_fieldfareref1_Pool_Sizetttthtb K (a 0) (a 1) (a 2) (a 7) (a 8) H :=
  have h1 : codeP PP CC (subC (bodyC PP 15) [1, 1, 1, 1, 0, 1]) (m_fieldfareref1_Pool_Sizetttt_k K) a H = codeP PP CC (subC (bodyC PP 15) [1, 1, 1, 1, 0, 1, 0]) (m_fieldfareref1_Pool_Sizettttht_k K) a H := by kernel_rfl
  h1.trans (m_fieldfareref1_Pool_Sizetttthtb_eq K a H)
abbrev m_fieldfareref1_Pool_Sizetttth_k (K : AV → AH → Prop) : KP := exP (fun (a : TE) (H : AH) => m_fieldfareref1_Pool_Sizetttthtb K (a 0) (a 1) (a 2) (a 7) (a 8) H) (m_fieldfareref1_Pool_Sizetttt_k K)
def m_fieldfareref1_Pool_Sizetttth (K : AV → AH → Prop) (x0 x1 x2 x7 : AV) (H : AH) : Prop :=
  m_fieldfareref1_Pool_Sizetttthtb K x0 x1 x2 x7 x2 H
theorem m_fieldfareref1_Pool_Sizetttth_eq (K : AV → AH → Prop) (a : TE) (H : AH) : codeP PP CC (subC (bodyC PP 15) [1, 1, 1, 1, 0]) (m_fieldfareref1_Pool_Sizetttt_k K) a H = m_fieldfareref1_Pool_Sizetttth K (a 0) (a 1) (a 2) (a 7) H :=
  have h1 : codeP PP CC (subC (bodyC PP 15) [1, 1, 1, 1, 0]) (m_fieldfareref1_Pool_Sizetttt_k K) a H = codeP PP CC (subC (bodyC PP 15) [1, 1, 1, 1, 0, 0]) (exP (codeP PP CC (subC (bodyC PP 15) [1, 1, 1, 1, 0, 1]) (m_fieldfareref1_Pool_Sizetttt_k K)) (m_fieldfareref1_Pool_Sizetttt_k K)) a H := by kernel_rfl
  have h2 : codeP PP CC (subC (bodyC PP 15) [1, 1, 1, 1, 0, 0]) (exP (codeP PP CC (subC (bodyC PP 15) [1, 1, 1, 1, 0, 1]) (m_fieldfareref1_Pool_Sizetttt_k K)) (m_fieldfareref1_Pool_Sizetttt_k K)) a H = codeP PP CC (subC (bodyC PP 15) [1, 1, 1, 1, 0, 0]) (exP (fun (a : TE) (H : AH) => m_fieldfareref1_Pool_Sizetttthtb K (a 0) (a 1) (a 2) (a 7) (a 8) H) (m_fieldfareref1_Pool_Sizetttt_k K)) a H := congrArg (fun k : KE => codeP PP CC (subC (bodyC PP 15) [1, 1, 1, 1, 0, 0]) (exP k (m_fieldfareref1_Pool_Sizetttt_k K)) a H) (funext fun a => funext fun H => m_fieldfareref1_Pool_Sizettttht_eq K a H)
  have h2b : codeP PP CC (subC (bodyC PP 15) [1, 1, 1, 1, 0, 0]) (exP (fun (a : TE) (H : AH) => m_fieldfareref1_Pool_Sizetttthtb K (a 0) (a 1) (a 2) (a 7) (a 8) H) (m_fieldfareref1_Pool_Sizetttt_k K)) a H = codeP PP CC (subC (bodyC PP 15) [1, 1, 1, 1, 0, 0]) (m_fieldfareref1_Pool_Sizetttth_k K) a H := by kernel_rfl
  have h3 : codeP PP CC (subC (bodyC PP 15) [1, 1, 1, 1, 0, 0]) (m_fieldfareref1_Pool_Sizetttth_k K) a H = m_fieldfareref1_Pool_Sizetttth K (a 0) (a 1) (a 2) (a 7) H := by kernel_rfl
  ((h1.trans h2).trans h2b).trans h3
theorem m_fieldfareref1_Pool_Sizetttt_eq (K : AV → AH → Prop) (a : TE) (H : AH) : codeP PP CC (subC (bodyC PP 15) [1, 1, 1, 1]) (m_fieldfareref1_Pool_Size_K K) a H = m_fieldfareref1_Pool_Sizetttth K (a 0) (a 1) (a 2) (a 7) H :=
  have h1 : codeP PP CC (subC (bodyC PP 15) [1, 1, 1, 1]) (m_fieldfareref1_Pool_Size_K K) a H = codeP PP CC (subC (bodyC PP 15) [1, 1, 1, 1, 0]) (exP (codeP PP CC (subC (bodyC PP 15) [1, 1, 1, 1, 1]) (m_fieldfareref1_Pool_Size_K K)) (m_fieldfareref1_Pool_Size_K K)) a H := by kernel_rfl
  have h2 : codeP PP CC (subC (bodyC PP 15) [1, 1, 1, 1, 0]) (exP (codeP PP CC (subC (bodyC PP 15) [1, 1, 1, 1, 1]) (m_fieldfareref1_Pool_Size_K K)) (m_fieldfareref1_Pool_Size_K K)) a H = codeP PP CC (subC (bodyC PP 15) [1, 1, 1, 1, 0]) (exP (fun (a : TE) (H : AH) => m_fieldfareref1_Pool_Sizettttt K (a 0) (a 1) (a 2) (a 7) H) (m_fieldfareref1_Pool_Size_K K)) a H := congrArg (fun k : KE => codeP PP CC (subC (bodyC PP 15) [1, 1, 1, 1, 0]) (exP k (m_fieldfareref1_Pool_Size_K K)) a H) (funext fun a => funext fun H => m_fieldfareref1_Pool_Sizettttt_eq K a H)
  have h2b : codeP PP CC (subC (bodyC PP 15) [1, 1, 1, 1, 0]) (exP (fun (a : TE) (H : AH) => m_fieldfareref1_Pool_Sizettttt K (a 0) (a 1) (a 2) (a 7) H) (m_fieldfareref1_Pool_Size_K K)) a H = codeP PP CC (subC (bodyC PP 15) [1, 1, 1, 1, 0]) (m_fieldfareref1_Pool_Sizetttt_k K) a H := by kernel_rfl
  ((h1.trans h2).trans h2b).trans (m_fieldfareref1_Pool_Sizetttth_eq K a H)
abbrev m_fieldfareref1_Pool_Sizettt_k (K : AV → AH → Prop) : KP := exP (fun (a : TE) (H : AH) => m_fieldfareref1_Pool_Sizetttth K (a 0) (a 1) (a 2) (a 7) H) (m_fieldfareref1_Pool_Size_K K)
def m_fieldfareref1_Pool_Sizettt (K : AV → AH → Prop) (x0 x1 x2 x7 : AV) (H : AH) : Prop :=
  outP CC H (w_len PP 33 H x7) fun v1 H1 =>
  outP CC H1 (w_int .gtr H1 x2 v1) fun v2 H2 =>
  guardP (boolIs true v2) H2 (outP CC H2 (some (.val x2 H2))) fun v3 H3 =>
  guardP (boolIs true v2) H3 (outP CC H3 (some (.val x7 H3))) fun v4 H4 =>
  guardP (boolIs true v2) H4 (outP CC H4 (w_len PP 33 H4 v4)) fun v5 H5 =>
  guardP (boolIs true v2) H5 (outP CC H5 (w_int .sub H5 v3 v5)) fun v6 H6 =>
  guardP (boolIs true v2) H6 (outP CC H6 (some (.val x0 H6))) fun v7 H7 =>
  guardP (boolIs true v2) H7 (outP CC H7 (some (.enter 17 [v7]))) fun v8 H8 =>
  guardP (boolIs true v2) H8 (outP CC H8 (w_int .gtr H8 v6 v8)) fun v9 H9 =>
  outP CC H9 (w_pick H9 v2 v9 (.bool false)) fun v10 H10 =>
  condP v10
  (K (.int .i64 6) H10)
  (m_fieldfareref1_Pool_Sizetttth K x0 x1 x2 x7 H10)
theorem m_fieldfareref1_Pool_Sizettt_eq (K : AV → AH → Prop) (a : TE) (H : AH) : codeP PP CC (subC (bodyC PP 15) [1, 1, 1]) (m_fieldfareref1_Pool_Size_K K) a H = m_fieldfareref1_Pool_Sizettt K (a 0) (a 1) (a 2) (a 7) H :=
  have h1 : codeP PP CC (subC (bodyC PP 15) [1, 1, 1]) (m_fieldfareref1_Pool_Size_K K) a H = codeP PP CC (subC (bodyC PP 15) [1, 1, 1, 0]) (exP (codeP PP CC (subC (bodyC PP 15) [1, 1, 1, 1]) (m_fieldfareref1_Pool_Size_K K)) (m_fieldfareref1_Pool_Size_K K)) a H := by kernel_rfl
  have h2 : codeP PP CC (subC (bodyC PP 15) [1, 1, 1, 0]) (exP (codeP PP CC (subC (bodyC PP 15) [1, 1, 1, 1]) (m_fieldfareref1_Pool_Size_K K)) (m_fieldfareref1_Pool_Size_K K)) a H = codeP PP CC (subC (bodyC PP 15) [1, 1, 1, 0]) (exP (fun (a : TE) (H : AH) => m_fieldfareref1_Pool_Sizetttth K (a 0) (a 1) (a 2) (a 7) H) (m_fieldfareref1_Pool_Size_K K)) a H := congrArg (fun k : KE => codeP PP CC (subC (bodyC PP 15) [1, 1, 1, 0]) (exP k (m_fieldfareref1_Pool_Size_K K)) a H) (funext fun a => funext fun H => m_fieldfareref1_Pool_Sizetttt_eq K a H)
  have h2b : codeP PP CC (subC (bodyC PP 15) [1, 1, 1, 0]) (exP (fun (a : TE) (H : AH) => m_fieldfareref1_Pool_Sizetttth K (a 0) (a 1) (a 2) (a 7) H) (m_fieldfareref1_Pool_Size_K K)) a H = codeP PP CC (subC (bodyC PP 15) [1, 1, 1, 0]) (m_fieldfareref1_Pool_Sizettt_k K) a H := by kernel_rfl
  have h3 : codeP PP CC (subC (bodyC PP 15) [1, 1, 1, 0]) (m_fieldfareref1_Pool_Sizettt_k K) a H = m_fieldfareref1_Pool_Sizettt K (a 0) (a 1) (a 2) (a 7) H := by kernel_rfl
  ((h1.trans h2).trans h2b).trans h3
abbrev m_fieldfareref1_Pool_Sizett_k (K : AV → AH → Prop) : KP := exP (fun (a : TE) (H : AH) => m_fieldfareref1_Pool_Sizettt K (a 0) (a 1) (a 2) (a 7) H) (m_fieldfareref1_Pool_Size_K K)
def m_fieldfareref1_Pool_Sizett (K : AV → AH → Prop) (x0 x1 x2 : AV) (H : AH) : Prop :=
  outP CC H (some (.enter 19 [x0, x1])) fun v1 H1 =>
  m_fieldfareref1_Pool_Sizettt K x0 x1 x2 v1 H1
theorem m_fieldfareref1_Pool_Sizett_eq (K : AV → AH → Prop) (a : TE) (H : AH) : codeP PP CC (subC (bodyC PP 15) [1, 1]) (m_fieldfareref1_Pool_Size_K K) a H = m_fieldfareref1_Pool_Sizett K (a 0) (a 1) (a 2) H :=
  have h1 : codeP PP CC (subC (bodyC PP 15) [1, 1]) (m_fieldfareref1_Pool_Size_K K) a H = codeP PP CC (subC (bodyC PP 15) [1, 1, 0]) (exP (codeP PP CC (subC (bodyC PP 15) [1, 1, 1]) (m_fieldfareref1_Pool_Size_K K)) (m_fieldfareref1_Pool_Size_K K)) a H := by kernel_rfl
  have h2 : codeP PP CC (subC (bodyC PP 15) [1, 1, 0]) (exP (codeP PP CC (subC (bodyC PP 15) [1, 1, 1]) (m_fieldfareref1_Pool_Size_K K)) (m_fieldfareref1_Pool_Size_K K)) a H = codeP PP CC (subC (bodyC PP 15) [1, 1, 0]) (exP (fun (a : TE) (H : AH) => m_fieldfareref1_Pool_Sizettt K (a 0) (a 1) (a 2) (a 7) H) (m_fieldfareref1_Pool_Size_K K)) a H := congrArg (fun k : KE => codeP PP CC (subC (bodyC PP 15) [1, 1, 0]) (exP k (m_fieldfareref1_Pool_Size_K K)) a H) (funext fun a => funext fun H => m_fieldfareref1_Pool_Sizettt_eq K a H)
  have h2b : codeP PP CC (subC (bodyC PP 15) [1, 1, 0]) (exP (fun (a : TE) (H : AH) => m_fieldfareref1_Pool_Sizettt K (a 0) (a 1) (a 2) (a 7) H) (m_fieldfareref1_Pool_Size_K K)) a H = codeP PP CC (subC (bodyC PP 15) [1, 1, 0]) (m_fieldfareref1_Pool_Sizett_k K) a H := by kernel_rfl
  have h3 : codeP PP CC (subC (bodyC PP 15) [1, 1, 0]) (m_fieldfareref1_Pool_Sizett_k K) a H = m_fieldfareref1_Pool_Sizett K (a 0) (a 1) (a 2) H := by kernel_rfl
  ((h1.trans h2).trans h2b).trans h3
abbrev m_fieldfareref1_Pool_Sizet_k (K : AV → AH → Prop) : KP := exP (fun (a : TE) (H : AH) => m_fieldfareref1_Pool_Sizett K (a 0) (a 1) (a 2) H) (m_fieldfareref1_Pool_Size_K K)
def m_fieldfareref1_Pool_Sizet (K : AV → AH → Prop) (x0 x1 x2 : AV) (H : AH) : Prop :=
  outP CC H (w_int .lss H x2 (.int .i64 0)) fun v1 H1 =>
  condP v1
  (K (.int .i64 2) H1)
  (m_fieldfareref1_Pool_Sizett K x0 x1 x2 H1)
theorem m_fieldfareref1_Pool_Sizet_eq (K : AV → AH → Prop) (a : TE) (H : AH) : codeP PP CC (subC (bodyC PP 15) [1]) (m_fieldfareref1_Pool_Size_K K) a H = m_fieldfareref1_Pool_Sizet K (a 0) (a 1) (a 2) H :=
  have h1 : codeP PP CC (subC (bodyC PP 15) [1]) (m_fieldfareref1_Pool_Size_K K) a H = codeP PP CC (subC (bodyC PP 15) [1, 0]) (exP (codeP PP CC (subC (bodyC PP 15) [1, 1]) (m_fieldfareref1_Pool_Size_K K)) (m_fieldfareref1_Pool_Size_K K)) a H := by kernel_rfl
  have h2 : codeP PP CC (subC (bodyC PP 15) [1, 0]) (exP (codeP PP CC (subC (bodyC PP 15) [1, 1]) (m_fieldfareref1_Pool_Size_K K)) (m_fieldfareref1_Pool_Size_K K)) a H = codeP PP CC (subC (bodyC PP 15) [1, 0]) (exP (fun (a : TE) (H : AH) => m_fieldfareref1_Pool_Sizett K (a 0) (a 1) (a 2) H) (m_fieldfareref1_Pool_Size_K K)) a H := congrArg (fun k : KE => codeP PP CC (subC (bodyC PP 15) [1, 0]) (exP k (m_fieldfareref1_Pool_Size_K K)) a H) (funext fun a => funext fun H => m_fieldfareref1_Pool_Sizett_eq K a H)
  have h2b : codeP PP CC (subC (bodyC PP 15) [1, 0]) (exP (fun (a : TE) (H : AH) => m_fieldfareref1_Pool_Sizett K (a 0) (a 1) (a 2) H) (m_fieldfareref1_Pool_Size_K K)) a H = codeP PP CC (subC (bodyC PP 15) [1, 0]) (m_fieldfareref1_Pool_Sizet_k K) a H := by kernel_rfl
  have h3 : codeP PP CC (subC (bodyC PP 15) [1, 0]) (m_fieldfareref1_Pool_Sizet_k K) a H = m_fieldfareref1_Pool_Sizet K (a 0) (a 1) (a 2) H := by kernel_rfl
  ((h1.trans h2).trans h2b).trans h3
abbrev m_fieldfareref1_Pool_Size_k (K : AV → AH → Prop) : KP := exP (fun (a : TE) (H : AH) => m_fieldfareref1_Pool_Sizet K (a 0) (a 1) (a 2) H) (m_fieldfareref1_Pool_Size_K K)
def m_fieldfareref1_Pool_Size (K : AV → AH → Prop) (x0 x1 x2 : AV) (H : AH) : Prop :=
  m_fieldfareref1_Pool_Sizet K x0 x1 x2 H
theorem m_fieldfareref1_Pool_Size_eq (K : AV → AH → Prop) (a : TE) (H : AH) : codeP PP CC (subC (bodyC PP 15) []) (m_fieldfareref1_Pool_Size_K K) a H = m_fieldfareref1_Pool_Size K (a 0) (a 1) (a 2) H :=
  have h1 : codeP PP CC (subC (bodyC PP 15) []) (m_fieldfareref1_Pool_Size_K K) a H = codeP PP CC (subC (bodyC PP 15) [0]) (exP (codeP PP CC (subC (bodyC PP 15) [1]) (m_fieldfareref1_Pool_Size_K K)) (m_fieldfareref1_Pool_Size_K K)) a H := by kernel_rfl
  have h2 : codeP PP CC (subC (bodyC PP 15) [0]) (exP (codeP PP CC (subC (bodyC PP 15) [1]) (m_fieldfareref1_Pool_Size_K K)) (m_fieldfareref1_Pool_Size_K K)) a H = codeP PP CC (subC (bodyC PP 15) [0]) (exP (fun (a : TE) (H : AH) => m_fieldfareref1_Pool_Sizet K (a 0) (a 1) (a 2) H) (m_fieldfareref1_Pool_Size_K K)) a H := congrArg (fun k : KE => codeP PP CC (subC (bodyC PP 15) [0]) (exP k (m_fieldfareref1_Pool_Size_K K)) a H) (funext fun a => funext fun H => m_fieldfareref1_Pool_Sizet_eq K a H)
  have h2b : codeP PP CC (subC (bodyC PP 15) [0]) (exP (fun (a : TE) (H : AH) => m_fieldfareref1_Pool_Sizet K (a 0) (a 1) (a 2) H) (m_fieldfareref1_Pool_Size_K K)) a H = codeP PP CC (subC (bodyC PP 15) [0]) (m_fieldfareref1_Pool_Size_k K) a H := by kernel_rfl
  have h3 : codeP PP CC (subC (bodyC PP 15) [0]) (m_fieldfareref1_Pool_Size_k K) a H = m_fieldfareref1_Pool_Size K (a 0) (a 1) (a 2) H := by kernel_rfl
  ((h1.trans h2).trans h2b).trans h3
theorem m_fieldfareref1_Pool_Size_ok (x0 x1 x2 : AV) (H : AH) (K : AV → AH → Prop) (h : m_fieldfareref1_Pool_Size K x0 x1 x2 H) : CC.call 15 [x0, x1, x2] H K :=
  have h1 : funP PP CC 15 [x0, x1, x2] H K = codeP PP CC (subC (bodyC PP 15) []) (m_fieldfareref1_Pool_Size_K K) (argE [x0, x1, x2]) H := by kernel_rfl
  have h2 : m_fieldfareref1_Pool_Size K (argE [x0, x1, x2] 0) (argE [x0, x1, x2] 1) (argE [x0, x1, x2] 2) H = m_fieldfareref1_Pool_Size K x0 x1 x2 H := by kernel_rfl
  funP_ok (P := PP) (by kernel_rfl) (by kernel_rfl) ((h1.trans ((m_fieldfareref1_Pool_Size_eq K (argE [x0, x1, x2]) H).trans h2)).mpr h)

/-! 19: (*fieldfare/fieldfareref1.Pool).Of -/
abbrev m_fieldfareref1_Pool_Of_K (K : AV → AH → Prop) : KP := finP PP (resC PP 19) K
abbrev m_fieldfareref1_Pool_Oftt_k (K : AV → AH → Prop) : KP := exP (codeP PP CC (subC (bodyC PP 19) [1, 1, 1]) (m_fieldfareref1_Pool_Of_K K)) (m_fieldfareref1_Pool_Of_K K)
abbrev m_fieldfareref1_Pool_Ofttht_k (K : AV → AH → Prop) : KP := blockP 0 (m_fieldfareref1_Pool_Oftt_k K)
abbrev m_fieldfareref1_Pool_Oftthtb_k (K : AV → AH → Prop) (r0 : (AV × AV × AV × AV × AV) → AH → Prop) : KP := exP (fun (a : TE) (H : AH) => r0 (a 0, a 1, a 5, a 11, a 12) H) (m_fieldfareref1_Pool_Ofttht_k K)
def m_fieldfareref1_Pool_Oftthtbl (K : AV → AH → Prop) (r0 : (AV × AV × AV × AV × AV) → AH → Prop) (x0 x1 x5 x11 x12 : AV) (H : AH) : Prop :=
  outP CC H (w_int .lss H x12 x11) fun v1 H1 =>
  condP v1
  (outP CC H1 (w_nil H1 x0) fun v2 H2 =>
  outP CC H2 (w_fieldAddr 0 H2 v2) fun v3 H3 =>
  outP CC H3 (w_load none H3 v3) fun v4 H4 =>
  outP CC H4 (w_indexAddr (.sl 1) H4 v4 x12) fun v5 H5 =>
  outP CC H5 (w_load none H5 v5) fun v6 H6 =>
  outP CC H6 (w_int .eql H6 v6 x1) fun v7 H7 =>
  condP v7
  (outP CC H7 (w_buildSlice PP 3 1 H7 [(0, x12)] none) fun v8 H8 =>
  outP CC H8 (w_append 3 1 8 H8 x5 v8 none) fun v9 H9 =>
  outP CC H9 (w_int .add H9 x12 (.int .i64 1)) fun v10 H10 =>
  r0 (x0, x1, v9, x11, v10) H10)
  (outP CC H7 (w_int .add H7 x12 (.int .i64 1)) fun v11 H11 =>
  r0 (x0, x1, x5, x11, v11) H11))
  (K x5 H1)
theorem m_fieldfareref1_Pool_Oftthtbl_eq (K : AV → AH → Prop) (r0 : (AV × AV × AV × AV × AV) → AH → Prop) (a : TE) (H : AH) : codeP PP CC (subC (bodyC PP 19) [1, 1, 0, 1, 0, 0]) (m_fieldfareref1_Pool_Oftthtb_k K r0) a H = m_fieldfareref1_Pool_Oftthtbl K r0 (a 0) (a 1) (a 5) (a 11) (a 12) H :=
  by kernel_rfl
def m_fieldfareref1_Pool_Oftthtb (K : AV → AH → Prop) (x0 x1 x5 x11 x12 : AV) (H : AH) : Prop :=
  loopP (fun (r0 : (AV × AV × AV × AV × AV) → AH → Prop) (s : (AV × AV × AV × AV × AV)) (H : AH) => m_fieldfareref1_Pool_Oftthtbl K r0 s.1 s.2.1 s.2.2.1 s.2.2.2.1 s.2.2.2.2 H) (x0, x1, x5, x11, x12) H
theorem m_fieldfareref1_Pool_Oftthtb_eq (K : AV → AH → Prop) (a : TE) (H : AH) : codeP PP CC (subC (bodyC PP 19) [1, 1, 0, 1, 0]) (m_fieldfareref1_Pool_Ofttht_k K) a H = m_fieldfareref1_Pool_Oftthtb K (a 0) (a 1) (a 5) (a 11) (a 12) H :=
  have h1 : codeP PP CC (subC (bodyC PP 19) [1, 1, 0, 1, 0]) (m_fieldfareref1_Pool_Ofttht_k K) a H = loopP (fun (rec : KE) => codeP PP CC (subC (bodyC PP 19) [1, 1, 0, 1, 0, 0]) (exP rec (m_fieldfareref1_Pool_Ofttht_k K))) a H := by kernel_rfl
  have h2 := loopP_iso (F := fun (rec : KE) => codeP PP CC (subC (bodyC PP 19) [1, 1, 0, 1, 0, 0]) (exP rec (m_fieldfareref1_Pool_Ofttht_k K))) (S := (AV × AV × AV × AV × AV)) (fun a => (a 0, a 1, a 5, a 11, a 12)) (fun (r0 : (AV × AV × AV × AV × AV) → AH → Prop) (s : (AV × AV × AV × AV × AV)) (H : AH) => m_fieldfareref1_Pool_Oftthtbl K r0 s.1 s.2.1 s.2.2.1 s.2.2.2.1 s.2.2.2.2 H) (fun (r0 : (AV × AV × AV × AV × AV) → AH → Prop) (a : TE) (H : AH) => (show codeP PP CC (subC (bodyC PP 19) [1, 1, 0, 1, 0, 0]) (exP (fun (a : TE) (H : AH) => r0 (a 0, a 1, a 5, a 11, a 12) H) (m_fieldfareref1_Pool_Ofttht_k K)) a H = codeP PP CC (subC (bodyC PP 19) [1, 1, 0, 1, 0, 0]) (m_fieldfareref1_Pool_Oftthtb_k K r0) a H from by kernel_rfl).trans (m_fieldfareref1_Pool_Oftthtbl_eq K r0 a H)) a H
  h1.trans h2
theorem m_fieldfareref1_Pool_Ofttht_eq (K : AV → AH → Prop) (a : TE) (H : AH) : codeP PP CC (subC (bodyC PP 19) [1, 1, 0, 1]) (m_fieldfareref1_Pool_Oftt_k K) a H = m_fieldfareref1_Pool_Oftthtb K (a 0) (a 1) (a 5) (a 11) (a 12) H :=
  have h1 : codeP PP CC (subC (bodyC PP 19) [1, 1, 0, 1]) (m_fieldfareref1_Pool_Oftt_k K) a H = codeP PP CC (subC (bodyC PP 19) [1, 1, 0, 1, 0]) (m_fieldfareref1_Pool_Ofttht_k K) a H := by kernel_rfl
  h1.trans (m_fieldfareref1_Pool_Oftthtb_eq K a H)
abbrev m_fieldfareref1_Pool_Oftth_k (K : AV → AH → Prop) : KP := exP (fun (a : TE) (H : AH) => m_fieldfareref1_Pool_Oftthtb K (a 0) (a 1) (a 5) (a 11) (a 12) H) (m_fieldfareref1_Pool_Oftt_k K)
def m_fieldfareref1_Pool_Oftth (K : AV → AH → Prop) (x0 x1 x5 : AV) (H : AH) : Prop :=
  outP CC H (w_nil H x0) fun v1 H1 =>
  outP CC H1 (w_fieldAddr 0 H1 v1) fun v2 H2 =>
  outP CC H2 (w_load none H2 v2) fun v3 H3 =>
  outP CC H3 (w_len PP 33 H3 v3) fun v4 H4 =>
  m_fieldfareref1_Pool_Oftthtb K x0 x1 x5 v4 (.int .i64 0) H4
theorem m_fieldfareref1_Pool_Oftth_eq (K : AV → AH → Prop) (a : TE) (H : AH) : codeP PP CC (subC (bodyC PP 19) [1, 1, 0]) (m_fieldfareref1_Pool_Oftt_k K) a H = m_fieldfareref1_Pool_Oftth K (a 0) (a 1) (a 5) H :=
  have h1 : codeP PP CC (subC (bodyC PP 19) [1, 1, 0]) (m_fieldfareref1_Pool_Oftt_k K) a H = codeP PP CC (subC (bodyC PP 19) [1, 1, 0, 0]) (exP (codeP PP CC (subC (bodyC PP 19) [1, 1, 0, 1]) (m_fieldfareref1_Pool_Oftt_k K)) (m_fieldfareref1_Pool_Oftt_k K)) a H := by kernel_rfl
  have h2 : codeP PP CC (subC (bodyC PP 19) [1, 1, 0, 0]) (exP (codeP PP CC (subC (bodyC PP 19) [1, 1, 0, 1]) (m_fieldfareref1_Pool_Oftt_k K)) (m_fieldfareref1_Pool_Oftt_k K)) a H = codeP PP CC (subC (bodyC PP 19) [1, 1, 0, 0]) (exP (fun (a : TE) (H : AH) => m_fieldfareref1_Pool_Oftthtb K (a 0) (a 1) (a 5) (a 11) (a 12) H) (m_fieldfareref1_Pool_Oftt_k K)) a H := congrArg (fun k : KE => codeP PP CC (subC (bodyC PP 19) [1, 1, 0, 0]) (exP k (m_fieldfareref1_Pool_Oftt_k K)) a H) (funext fun a => funext fun H => m_fieldfareref1_Pool_Ofttht_eq K a H)
  have h2b : codeP PP CC (subC (bodyC PP 19) [1, 1, 0, 0]) (exP (fun (a : TE) (H : AH) => m_fieldfareref1_Pool_Oftthtb K (a 0) (a 1) (a 5) (a 11) (a 12) H) (m_fieldfareref1_Pool_Oftt_k K)) a H = codeP PP CC (subC (bodyC PP 19) [1, 1, 0, 0]) (m_fieldfareref1_Pool_Oftth_k K) a H := by kernel_rfl
  have h3 : codeP PP CC (subC (bodyC PP 19) [1, 1, 0, 0]) (m_fieldfareref1_Pool_Oftth_k K) a H = m_fieldfareref1_Pool_Oftth K (a 0) (a 1) (a 5) H := by kernel_rfl
  ((h1.trans h2).trans h2b).trans h3
theorem m_fieldfareref1_Pool_Oftt_eq (K : AV → AH → Prop) (a : TE) (H : AH) : codeP PP CC (subC (bodyC PP 19) [1, 1]) (m_fieldfareref1_Pool_Of_K K) a H = m_fieldfareref1_Pool_Oftth K (a 0) (a 1) (a 5) H :=
  have h1 : codeP PP CC (subC (bodyC PP 19) [1, 1]) (m_fieldfareref1_Pool_Of_K K) a H = codeP PP CC (subC (bodyC PP 19) [1, 1, 0]) (m_fieldfareref1_Pool_Oftt_k K) a H := by kernel_rfl
  h1.trans (m_fieldfareref1_Pool_Oftth_eq K a H)
abbrev m_fieldfareref1_Pool_Oft_k (K : AV → AH → Prop) : KP := exP (fun (a : TE) (H : AH) => m_fieldfareref1_Pool_Oftth K (a 0) (a 1) (a 5) H) (m_fieldfareref1_Pool_Of_K K)
def m_fieldfareref1_Pool_Oft (K : AV → AH → Prop) (x0 x1 : AV) (H : AH) : Prop :=
  m_fieldfareref1_Pool_Oftth K x0 x1 (.slice none 0 0 true) H
theorem m_fieldfareref1_Pool_Oft_eq (K : AV → AH → Prop) (a : TE) (H : AH) : codeP PP CC (subC (bodyC PP 19) [1]) (m_fieldfareref1_Pool_Of_K K) a H = m_fieldfareref1_Pool_Oft K (a 0) (a 1) H :=
  have h1 : codeP PP CC (subC (bodyC PP 19) [1]) (m_fieldfareref1_Pool_Of_K K) a H = codeP PP CC (subC (bodyC PP 19) [1, 0]) (exP (codeP PP CC (subC (bodyC PP 19) [1, 1]) (m_fieldfareref1_Pool_Of_K K)) (m_fieldfareref1_Pool_Of_K K)) a H := by kernel_rfl
  have h2 : codeP PP CC (subC (bodyC PP 19) [1, 0]) (exP (codeP PP CC (subC (bodyC PP 19) [1, 1]) (m_fieldfareref1_Pool_Of_K K)) (m_fieldfareref1_Pool_Of_K K)) a H = codeP PP CC (subC (bodyC PP 19) [1, 0]) (exP (fun (a : TE) (H : AH) => m_fieldfareref1_Pool_Oftth K (a 0) (a 1) (a 5) H) (m_fieldfareref1_Pool_Of_K K)) a H := congrArg (fun k : KE => codeP PP CC (subC (bodyC PP 19) [1, 0]) (exP k (m_fieldfareref1_Pool_Of_K K)) a H) (funext fun a => funext fun H => m_fieldfareref1_Pool_Oftt_eq K a H)
  have h2b : codeP PP CC (subC (bodyC PP 19) [1, 0]) (exP (fun (a : TE) (H : AH) => m_fieldfareref1_Pool_Oftth K (a 0) (a 1) (a 5) H) (m_fieldfareref1_Pool_Of_K K)) a H = codeP PP CC (subC (bodyC PP 19) [1, 0]) (m_fieldfareref1_Pool_Oft_k K) a H := by kernel_rfl
  have h3 : codeP PP CC (subC (bodyC PP 19) [1, 0]) (m_fieldfareref1_Pool_Oft_k K) a H = m_fieldfareref1_Pool_Oft K (a 0) (a 1) H := by kernel_rfl
  ((h1.trans h2).trans h2b).trans h3
abbrev m_fieldfareref1_Pool_Of_k (K : AV → AH → Prop) : KP := exP (fun (a : TE) (H : AH) => m_fieldfareref1_Pool_Oft K (a 0) (a 1) H) (m_fieldfareref1_Pool_Of_K K)
def m_fieldfareref1_Pool_Of (K : AV → AH → Prop) (x0 x1 : AV) (H : AH) : Prop :=
  m_fieldfareref1_Pool_Oft K x0 x1 H
theorem m_fieldfareref1_Pool_Of_eq (K : AV → AH → Prop) (a : TE) (H : AH) : codeP PP CC (subC (bodyC PP 19) []) (m_fieldfareref1_Pool_Of_K K) a H = m_fieldfareref1_Pool_Of K (a 0) (a 1) H :=
  have h1 : codeP PP CC (subC (bodyC PP 19) []) (m_fieldfareref1_Pool_Of_K K) a H = codeP PP CC (subC (bodyC PP 19) [0]) (exP (codeP PP CC (subC (bodyC PP 19) [1]) (m_fieldfareref1_Pool_Of_K K)) (m_fieldfareref1_Pool_Of_K K)) a H := by kernel_rfl
  have h2 : codeP PP CC (subC (bodyC PP 19) [0]) (exP (codeP PP CC (subC (bodyC PP 19) [1]) (m_fieldfareref1_Pool_Of_K K)) (m_fieldfareref1_Pool_Of_K K)) a H = codeP PP CC (subC (bodyC PP 19) [0]) (exP (fun (a : TE) (H : AH) => m_fieldfareref1_Pool_Oft K (a 0) (a 1) H) (m_fieldfareref1_Pool_Of_K K)) a H := congrArg (fun k : KE => codeP PP CC (subC (bodyC PP 19) [0]) (exP k (m_fieldfareref1_Pool_Of_K K)) a H) (funext fun a => funext fun H => m_fieldfareref1_Pool_Oft_eq K a H)
  have h2b : codeP PP CC (subC (bodyC PP 19) [0]) (exP (fun (a : TE) (H : AH) => m_fieldfareref1_Pool_Oft K (a 0) (a 1) H) (m_fieldfareref1_Pool_Of_K K)) a H = codeP PP CC (subC (bodyC PP 19) [0]) (m_fieldfareref1_Pool_Of_k K) a H := by kernel_rfl
  have h3 : codeP PP CC (subC (bodyC PP 19) [0]) (m_fieldfareref1_Pool_Of_k K) a H = m_fieldfareref1_Pool_Of K (a 0) (a 1) H := by kernel_rfl
  ((h1.trans h2).trans h2b).trans h3
theorem m_fieldfareref1_Pool_Of_ok (x0 x1 : AV) (H : AH) (K : AV → AH → Prop) (h : m_fieldfareref1_Pool_Of K x0 x1 H) : CC.call 19 [x0, x1] H K :=
  have h1 : funP PP CC 19 [x0, x1] H K = codeP PP CC (subC (bodyC PP 19) []) (m_fieldfareref1_Pool_Of_K K) (argE [x0, x1]) H := by kernel_rfl
  have h2 : m_fieldfareref1_Pool_Of K (argE [x0, x1] 0) (argE [x0, x1] 1) H = m_fieldfareref1_Pool_Of K x0 x1 H := by kernel_rfl
  funP_ok (P := PP) (by kernel_rfl) (by kernel_rfl) ((h1.trans ((m_fieldfareref1_Pool_Of_eq K (argE [x0, x1]) H).trans h2)).mpr h)

/-! 17: (*fieldfare/fieldfareref1.Pool).Free -/
abbrev m_fieldfareref1_Pool_Free_K (K : AV → AH → Prop) : KP := finP PP (resC PP 17) K
def m_fieldfareref1_Pool_Free (K : AV → AH → Prop) (x0 : AV) (H : AH) : Prop :=
  outP CC H (some (.enter 19 [x0, (.int .i64 (-9223372036854775808))])) fun v1 H1 =>
  outP CC H1 (w_len PP 33 H1 v1) fun v2 H2 =>
  K v2 H2
theorem m_fieldfareref1_Pool_Free_eq (K : AV → AH → Prop) (a : TE) (H : AH) : codeP PP CC (subC (bodyC PP 17) []) (m_fieldfareref1_Pool_Free_K K) a H = m_fieldfareref1_Pool_Free K (a 0) H :=
  by kernel_rfl
theorem m_fieldfareref1_Pool_Free_ok (x0 : AV) (H : AH) (K : AV → AH → Prop) (h : m_fieldfareref1_Pool_Free K x0 H) : CC.call 17 [x0] H K :=
  have h1 : funP PP CC 17 [x0] H K = codeP PP CC (subC (bodyC PP 17) []) (m_fieldfareref1_Pool_Free_K K) (argE [x0]) H := by kernel_rfl
  have h2 : m_fieldfareref1_Pool_Free K (argE [x0] 0) H = m_fieldfareref1_Pool_Free K x0 H := by kernel_rfl
  funP_ok (P := PP) (by kernel_rfl) (by kernel_rfl) ((h1.trans ((m_fieldfareref1_Pool_Free_eq K (argE [x0]) H).trans h2)).mpr h)

end
end Go.Ab
