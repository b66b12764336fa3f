/- What functions do, said as what the evaluator does. Printed by a program. -/
import Derived.Test.YtjpjmeidpjjgdaaGreatDoorBeg
import Derived.Test.YtjpjmeidpjjgdaaGreatDoorEv3
namespace Go.Ab
noncomputable section
open Go.Proofs
set_option maxRecDepth 100000



/-! 27: fieldfare/means.Order -/
abbrev m_means_Order_K (K : AV → AH → Prop) : KP := finP PP (resC PP 27) K
abbrev m_means_Orderttttt_k (K : AV → AH → Prop) : KP := exP (codeP PP CC (subC (bodyC PP 27) [1, 1, 1, 1, 1, 1]) (m_means_Order_K K)) (m_means_Order_K K)
abbrev m_means_Ordertttttht_k (K : AV → AH → Prop) : KP := blockP 2 (m_means_Orderttttt_k K)
abbrev m_means_Orderttttthtb_k (K : AV → AH → Prop) (r0 : (AV × AV × AV × AV) → AH → Prop) : KP := exP (fun (a : TE) (H : AH) => r0 (a 8, a 32, a 33, a 34) H) (m_means_Ordertttttht_k K)
def m_means_Orderttttthtbl (K : AV → AH → Prop) (r0 : (AV × AV × AV × AV) → AH → Prop) (x8 x32 x33 x34 : AV) (H : AH) : Prop :=
  outP CC H (w_int .lss H x34 x33) fun v1 H1 =>
  condP v1
  (outP CC H1 (w_indexAddr (.sl 2) H1 x32 x34) fun v2 H2 =>
  outP CC H2 (w_load (some 2) H2 v2) fun v3 H3 =>
  outP CC H3 (w_alloc 61 [(.int .i64 0), (.int .i64 0)] H3 none) fun v4 H4 =>
  outP CC H4 (w_store 2 H4 v4 v3) fun _v5 H5 =>
  outP CC H5 (w_fieldAddr 0 H5 v4) fun v6 H6 =>
  outP CC H6 (w_load none H6 v6) fun v7 H7 =>
  outP CC H7 (w_buildSlice PP 3 1 H7 [(0, v7)] none) fun v8 H8 =>
  outP CC H8 (w_append 3 1 8 H8 x8 v8 none) fun v9 H9 =>
  outP CC H9 (w_int .add H9 x34 (.int .i64 1)) fun v10 H10 =>
  r0 (v9, x32, x33, v10) H10)
  (K x8 H1)
theorem m_means_Orderttttthtbl_eq (K : AV → AH → Prop) (r0 : (AV × AV × AV × AV) → AH → Prop) (a : TE) (H : AH) : codeP PP CC (subC (bodyC PP 27) [1, 1, 1, 1, 1, 0, 1, 0, 0]) (m_means_Orderttttthtb_k K r0) a H = m_means_Orderttttthtbl K r0 (a 8) (a 32) (a 33) (a 34) H :=
  by kernel_rfl
def m_means_Orderttttthtb (K : AV → AH → Prop) (x8 x32 x33 x34 : AV) (H : AH) : Prop :=
  loopP (fun (r0 : (AV × AV × AV × AV) → AH → Prop) (s : (AV × AV × AV × AV)) (H : AH) => m_means_Orderttttthtbl K r0 s.1 s.2.1 s.2.2.1 s.2.2.2 H) (x8, x32, x33, x34) H
theorem m_means_Orderttttthtb_eq (K : AV → AH → Prop) (a : TE) (H : AH) : codeP PP CC (subC (bodyC PP 27) [1, 1, 1, 1, 1, 0, 1, 0]) (m_means_Ordertttttht_k K) a H = m_means_Orderttttthtb K (a 8) (a 32) (a 33) (a 34) H :=
  have h1 : codeP PP CC (subC (bodyC PP 27) [1, 1, 1, 1, 1, 0, 1, 0]) (m_means_Ordertttttht_k K) a H = loopP (fun (rec : KE) => codeP PP CC (subC (bodyC PP 27) [1, 1, 1, 1, 1, 0, 1, 0, 0]) (exP rec (m_means_Ordertttttht_k K))) a H := by kernel_rfl
  have h2 := loopP_iso (F := fun (rec : KE) => codeP PP CC (subC (bodyC PP 27) [1, 1, 1, 1, 1, 0, 1, 0, 0]) (exP rec (m_means_Ordertttttht_k K))) (S := (AV × AV × AV × AV)) (fun a => (a 8, a 32, a 33, a 34)) (fun (r0 : (AV × AV × AV × AV) → AH → Prop) (s : (AV × AV × AV × AV)) (H : AH) => m_means_Orderttttthtbl K r0 s.1 s.2.1 s.2.2.1 s.2.2.2 H) (fun (r0 : (AV × AV × AV × AV) → AH → Prop) (a : TE) (H : AH) => (show codeP PP CC (subC (bodyC PP 27) [1, 1, 1, 1, 1, 0, 1, 0, 0]) (exP (fun (a : TE) (H : AH) => r0 (a 8, a 32, a 33, a 34) H) (m_means_Ordertttttht_k K)) a H = codeP PP CC (subC (bodyC PP 27) [1, 1, 1, 1, 1, 0, 1, 0, 0]) (m_means_Orderttttthtb_k K r0) a H from by kernel_rfl).trans (m_means_Orderttttthtbl_eq K r0 a H)) a H
  h1.trans h2
theorem m_means_Ordertttttht_eq (K : AV → AH → Prop) (a : TE) (H : AH) : codeP PP CC (subC (bodyC PP 27) [1, 1, 1, 1, 1, 0, 1]) (m_means_Orderttttt_k K) a H = m_means_Orderttttthtb K (a 8) (a 32) (a 33) (a 34) H :=
  have h1 : codeP PP CC (subC (bodyC PP 27) [1, 1, 1, 1, 1, 0, 1]) (m_means_Orderttttt_k K) a H = codeP PP CC (subC (bodyC PP 27) [1, 1, 1, 1, 1, 0, 1, 0]) (m_means_Ordertttttht_k K) a H := by kernel_rfl
  h1.trans (m_means_Orderttttthtb_eq K a H)
abbrev m_means_Orderttttth_k (K : AV → AH → Prop) : KP := exP (fun (a : TE) (H : AH) => m_means_Orderttttthtb K (a 8) (a 32) (a 33) (a 34) H) (m_means_Orderttttt_k K)
def m_means_Orderttttth (K : AV → AH → Prop) (x5 x8 : AV) (H : AH) : Prop :=
  outP CC H (w_len PP 62 H x5) fun v1 H1 =>
  m_means_Orderttttthtb K x8 x5 v1 (.int .i64 0) H1
theorem m_means_Orderttttth_eq (K : AV → AH → Prop) (a : TE) (H : AH) : codeP PP CC (subC (bodyC PP 27) [1, 1, 1, 1, 1, 0]) (m_means_Orderttttt_k K) a H = m_means_Orderttttth K (a 5) (a 8) H :=
  have h1 : codeP PP CC (subC (bodyC PP 27) [1, 1, 1, 1, 1, 0]) (m_means_Orderttttt_k K) a H = codeP PP CC (subC (bodyC PP 27) [1, 1, 1, 1, 1, 0, 0]) (exP (codeP PP CC (subC (bodyC PP 27) [1, 1, 1, 1, 1, 0, 1]) (m_means_Orderttttt_k K)) (m_means_Orderttttt_k K)) a H := by kernel_rfl
  have h2 : codeP PP CC (subC (bodyC PP 27) [1, 1, 1, 1, 1, 0, 0]) (exP (codeP PP CC (subC (bodyC PP 27) [1, 1, 1, 1, 1, 0, 1]) (m_means_Orderttttt_k K)) (m_means_Orderttttt_k K)) a H = codeP PP CC (subC (bodyC PP 27) [1, 1, 1, 1, 1, 0, 0]) (exP (fun (a : TE) (H : AH) => m_means_Orderttttthtb K (a 8) (a 32) (a 33) (a 34) H) (m_means_Orderttttt_k K)) a H := congrArg (fun k : KE => codeP PP CC (subC (bodyC PP 27) [1, 1, 1, 1, 1, 0, 0]) (exP k (m_means_Orderttttt_k K)) a H) (funext fun a => funext fun H => m_means_Ordertttttht_eq K a H)
  have h2b : codeP PP CC (subC (bodyC PP 27) [1, 1, 1, 1, 1, 0, 0]) (exP (fun (a : TE) (H : AH) => m_means_Orderttttthtb K (a 8) (a 32) (a 33) (a 34) H) (m_means_Orderttttt_k K)) a H = codeP PP CC (subC (bodyC PP 27) [1, 1, 1, 1, 1, 0, 0]) (m_means_Orderttttth_k K) a H := by kernel_rfl
  have h3 : codeP PP CC (subC (bodyC PP 27) [1, 1, 1, 1, 1, 0, 0]) (m_means_Orderttttth_k K) a H = m_means_Orderttttth K (a 5) (a 8) H := by kernel_rfl
  ((h1.trans h2).trans h2b).trans h3
theorem m_means_Orderttttt_eq (K : AV → AH → Prop) (a : TE) (H : AH) : codeP PP CC (subC (bodyC PP 27) [1, 1, 1, 1, 1]) (m_means_Order_K K) a H = m_means_Orderttttth K (a 5) (a 8) H :=
  have h1 : codeP PP CC (subC (bodyC PP 27) [1, 1, 1, 1, 1]) (m_means_Order_K K) a H = codeP PP CC (subC (bodyC PP 27) [1, 1, 1, 1, 1, 0]) (m_means_Orderttttt_k K) a H := by kernel_rfl
  h1.trans (m_means_Orderttttth_eq K a H)
abbrev m_means_Ordertttt_k (K : AV → AH → Prop) : KP := exP (fun (a : TE) (H : AH) => m_means_Orderttttth K (a 5) (a 8) H) (m_means_Order_K K)
def m_means_Ordertttt (K : AV → AH → Prop) (x5 : AV) (H : AH) : Prop :=
  m_means_Orderttttth K x5 (.slice none 0 0 true) H
theorem m_means_Ordertttt_eq (K : AV → AH → Prop) (a : TE) (H : AH) : codeP PP CC (subC (bodyC PP 27) [1, 1, 1, 1]) (m_means_Order_K K) a H = m_means_Ordertttt K (a 5) H :=
  have h1 : codeP PP CC (subC (bodyC PP 27) [1, 1, 1, 1]) (m_means_Order_K K) a H = codeP PP CC (subC (bodyC PP 27) [1, 1, 1, 1, 0]) (exP (codeP PP CC (subC (bodyC PP 27) [1, 1, 1, 1, 1]) (m_means_Order_K K)) (m_means_Order_K K)) a H := by kernel_rfl
  have h2 : codeP PP CC (subC (bodyC PP 27) [1, 1, 1, 1, 0]) (exP (codeP PP CC (subC (bodyC PP 27) [1, 1, 1, 1, 1]) (m_means_Order_K K)) (m_means_Order_K K)) a H = codeP PP CC (subC (bodyC PP 27) [1, 1, 1, 1, 0]) (exP (fun (a : TE) (H : AH) => m_means_Orderttttth K (a 5) (a 8) H) (m_means_Order_K K)) a H := congrArg (fun k : KE => codeP PP CC (subC (bodyC PP 27) [1, 1, 1, 1, 0]) (exP k (m_means_Order_K K)) a H) (funext fun a => funext fun H => m_means_Orderttttt_eq K a H)
  have h2b : codeP PP CC (subC (bodyC PP 27) [1, 1, 1, 1, 0]) (exP (fun (a : TE) (H : AH) => m_means_Orderttttth K (a 5) (a 8) H) (m_means_Order_K K)) a H = codeP PP CC (subC (bodyC PP 27) [1, 1, 1, 1, 0]) (m_means_Ordertttt_k K) a H := by kernel_rfl
  have h3 : codeP PP CC (subC (bodyC PP 27) [1, 1, 1, 1, 0]) (m_means_Ordertttt_k K) a H = m_means_Ordertttt K (a 5) H := by kernel_rfl
  ((h1.trans h2).trans h2b).trans h3
abbrev m_means_Orderttt_k (K : AV → AH → Prop) : KP := exP (fun (a : TE) (H : AH) => m_means_Ordertttt K (a 5) H) (m_means_Order_K K)
def m_means_Orderttt (K : AV → AH → Prop) (x5 : AV) (H : AH) : Prop :=
  outP CC H (some (.enter 56 [x5, (.fn (.func 57) [] [])])) fun _v1 H1 =>
  m_means_Ordertttt K x5 H1
theorem m_means_Orderttt_eq (K : AV → AH → Prop) (a : TE) (H : AH) : codeP PP CC (subC (bodyC PP 27) [1, 1, 1]) (m_means_Order_K K) a H = m_means_Orderttt K (a 5) H :=
  have h1 : codeP PP CC (subC (bodyC PP 27) [1, 1, 1]) (m_means_Order_K K) a H = codeP PP CC (subC (bodyC PP 27) [1, 1, 1, 0]) (exP (codeP PP CC (subC (bodyC PP 27) [1, 1, 1, 1]) (m_means_Order_K K)) (m_means_Order_K K)) a H := by kernel_rfl
  have h2 : codeP PP CC (subC (bodyC PP 27) [1, 1, 1, 0]) (exP (codeP PP CC (subC (bodyC PP 27) [1, 1, 1, 1]) (m_means_Order_K K)) (m_means_Order_K K)) a H = codeP PP CC (subC (bodyC PP 27) [1, 1, 1, 0]) (exP (fun (a : TE) (H : AH) => m_means_Ordertttt K (a 5) H) (m_means_Order_K K)) a H := congrArg (fun k : KE => codeP PP CC (subC (bodyC PP 27) [1, 1, 1, 0]) (exP k (m_means_Order_K K)) a H) (funext fun a => funext fun H => m_means_Ordertttt_eq K a H)
  have h2b : codeP PP CC (subC (bodyC PP 27) [1, 1, 1, 0]) (exP (fun (a : TE) (H : AH) => m_means_Ordertttt K (a 5) H) (m_means_Order_K K)) a H = codeP PP CC (subC (bodyC PP 27) [1, 1, 1, 0]) (m_means_Orderttt_k K) a H := by kernel_rfl
  have h3 : codeP PP CC (subC (bodyC PP 27) [1, 1, 1, 0]) (m_means_Orderttt_k K) a H = m_means_Orderttt K (a 5) H := by kernel_rfl
  ((h1.trans h2).trans h2b).trans h3
abbrev m_means_Ordertt_k (K : AV → AH → Prop) : KP := exP (fun (a : TE) (H : AH) => m_means_Orderttt K (a 5) H) (m_means_Order_K K)
abbrev m_means_Orderttht_k (K : AV → AH → Prop) : KP := blockP 0 (m_means_Ordertt_k K)
abbrev m_means_Ordertthtb_k (K : AV → AH → Prop) (r0 : (AV × AV × AV × AV × AV) → AH → Prop) : KP := exP (fun (a : TE) (H : AH) => r0 (a 1, a 5, a 14, a 15, a 16) H) (m_means_Orderttht_k K)
def m_means_Ordertthtbl (K : AV → AH → Prop) (r0 : (AV × AV × AV × AV × AV) → AH → Prop) (x1 x5 x14 x15 x16 : AV) (H : AH) : Prop :=
  outP CC H (w_int .lss H x16 x15) fun v1 H1 =>
  condP v1
  (outP CC H1 (w_indexAddr (.sl 1) H1 x14 x16) fun v2 H2 =>
  outP CC H2 (w_load none H2 v2) fun v3 H3 =>
  outP CC H3 (some (.enter 31 [(.int .i64 1), v3, x1])) fun v4 H4 =>
  outP CC H4 (w_build PP 61 H4 [(0, x16), (1, v4)]) fun v5 H5 =>
  outP CC H5 (w_indexAddr (.sl 2) H5 x5 x16) fun v6 H6 =>
  outP CC H6 (w_store 2 H6 v6 v5) fun _v7 H7 =>
  outP CC H7 (w_int .add H7 x16 (.int .i64 1)) fun v8 H8 =>
  r0 (x1, x5, x14, x15, v8) H8)
  (m_means_Orderttt K x5 H1)
theorem m_means_Ordertthtbl_eq (K : AV → AH → Prop) (r0 : (AV × AV × AV × AV × AV) → AH → Prop) (a : TE) (H : AH) : codeP PP CC (subC (bodyC PP 27) [1, 1, 0, 1, 0, 0]) (m_means_Ordertthtb_k K r0) a H = m_means_Ordertthtbl K r0 (a 1) (a 5) (a 14) (a 15) (a 16) H :=
  by kernel_rfl
def m_means_Ordertthtb (K : AV → AH → Prop) (x1 x5 x14 x15 x16 : AV) (H : AH) : Prop :=
  loopP (fun (r0 : (AV × AV × AV × AV × AV) → AH → Prop) (s : (AV × AV × AV × AV × AV)) (H : AH) => m_means_Ordertthtbl K r0 s.1 s.2.1 s.2.2.1 s.2.2.2.1 s.2.2.2.2 H) (x1, x5, x14, x15, x16) H
theorem m_means_Ordertthtb_eq (K : AV → AH → Prop) (a : TE) (H : AH) : codeP PP CC (subC (bodyC PP 27) [1, 1, 0, 1, 0]) (m_means_Orderttht_k K) a H = m_means_Ordertthtb K (a 1) (a 5) (a 14) (a 15) (a 16) H :=
  have h1 : codeP PP CC (subC (bodyC PP 27) [1, 1, 0, 1, 0]) (m_means_Orderttht_k K) a H = loopP (fun (rec : KE) => codeP PP CC (subC (bodyC PP 27) [1, 1, 0, 1, 0, 0]) (exP rec (m_means_Orderttht_k K))) a H := by kernel_rfl
  have h2 := loopP_iso (F := fun (rec : KE) => codeP PP CC (subC (bodyC PP 27) [1, 1, 0, 1, 0, 0]) (exP rec (m_means_Orderttht_k K))) (S := (AV × AV × AV × AV × AV)) (fun a => (a 1, a 5, a 14, a 15, a 16)) (fun (r0 : (AV × AV × AV × AV × AV) → AH → Prop) (s : (AV × AV × AV × AV × AV)) (H : AH) => m_means_Ordertthtbl K r0 s.1 s.2.1 s.2.2.1 s.2.2.2.1 s.2.2.2.2 H) (fun (r0 : (AV × AV × AV × AV × AV) → AH → Prop) (a : TE) (H : AH) => (show codeP PP CC (subC (bodyC PP 27) [1, 1, 0, 1, 0, 0]) (exP (fun (a : TE) (H : AH) => r0 (a 1, a 5, a 14, a 15, a 16) H) (m_means_Orderttht_k K)) a H = codeP PP CC (subC (bodyC PP 27) [1, 1, 0, 1, 0, 0]) (m_means_Ordertthtb_k K r0) a H from by kernel_rfl).trans (m_means_Ordertthtbl_eq K r0 a H)) a H
  h1.trans h2
theorem m_means_Orderttht_eq (K : AV → AH → Prop) (a : TE) (H : AH) : codeP PP CC (subC (bodyC PP 27) [1, 1, 0, 1]) (m_means_Ordertt_k K) a H = m_means_Ordertthtb K (a 1) (a 5) (a 14) (a 15) (a 16) H :=
  have h1 : codeP PP CC (subC (bodyC PP 27) [1, 1, 0, 1]) (m_means_Ordertt_k K) a H = codeP PP CC (subC (bodyC PP 27) [1, 1, 0, 1, 0]) (m_means_Orderttht_k K) a H := by kernel_rfl
  h1.trans (m_means_Ordertthtb_eq K a H)
abbrev m_means_Ordertth_k (K : AV → AH → Prop) : KP := exP (fun (a : TE) (H : AH) => m_means_Ordertthtb K (a 1) (a 5) (a 14) (a 15) (a 16) H) (m_means_Ordertt_k K)
def m_means_Ordertth (K : AV → AH → Prop) (x0 x1 x5 : AV) (H : AH) : Prop :=
  outP CC H (w_len PP 36 H x0) fun v1 H1 =>
  m_means_Ordertthtb K x1 x5 x0 v1 (.int .i64 0) H1
theorem m_means_Ordertth_eq (K : AV → AH → Prop) (a : TE) (H : AH) : codeP PP CC (subC (bodyC PP 27) [1, 1, 0]) (m_means_Ordertt_k K) a H = m_means_Ordertth K (a 0) (a 1) (a 5) H :=
  have h1 : codeP PP CC (subC (bodyC PP 27) [1, 1, 0]) (m_means_Ordertt_k K) a H = codeP PP CC (subC (bodyC PP 27) [1, 1, 0, 0]) (exP (codeP PP CC (subC (bodyC PP 27) [1, 1, 0, 1]) (m_means_Ordertt_k K)) (m_means_Ordertt_k K)) a H := by kernel_rfl
  have h2 : codeP PP CC (subC (bodyC PP 27) [1, 1, 0, 0]) (exP (codeP PP CC (subC (bodyC PP 27) [1, 1, 0, 1]) (m_means_Ordertt_k K)) (m_means_Ordertt_k K)) a H = codeP PP CC (subC (bodyC PP 27) [1, 1, 0, 0]) (exP (fun (a : TE) (H : AH) => m_means_Ordertthtb K (a 1) (a 5) (a 14) (a 15) (a 16) H) (m_means_Ordertt_k K)) a H := congrArg (fun k : KE => codeP PP CC (subC (bodyC PP 27) [1, 1, 0, 0]) (exP k (m_means_Ordertt_k K)) a H) (funext fun a => funext fun H => m_means_Orderttht_eq K a H)
  have h2b : codeP PP CC (subC (bodyC PP 27) [1, 1, 0, 0]) (exP (fun (a : TE) (H : AH) => m_means_Ordertthtb K (a 1) (a 5) (a 14) (a 15) (a 16) H) (m_means_Ordertt_k K)) a H = codeP PP CC (subC (bodyC PP 27) [1, 1, 0, 0]) (m_means_Ordertth_k K) a H := by kernel_rfl
  have h3 : codeP PP CC (subC (bodyC PP 27) [1, 1, 0, 0]) (m_means_Ordertth_k K) a H = m_means_Ordertth K (a 0) (a 1) (a 5) H := by kernel_rfl
  ((h1.trans h2).trans h2b).trans h3
theorem m_means_Ordertt_eq (K : AV → AH → Prop) (a : TE) (H : AH) : codeP PP CC (subC (bodyC PP 27) [1, 1]) (m_means_Order_K K) a H = m_means_Ordertth K (a 0) (a 1) (a 5) H :=
  have h1 : codeP PP CC (subC (bodyC PP 27) [1, 1]) (m_means_Order_K K) a H = codeP PP CC (subC (bodyC PP 27) [1, 1, 0]) (exP (codeP PP CC (subC (bodyC PP 27) [1, 1, 1]) (m_means_Order_K K)) (m_means_Order_K K)) a H := by kernel_rfl
  have h2 : codeP PP CC (subC (bodyC PP 27) [1, 1, 0]) (exP (codeP PP CC (subC (bodyC PP 27) [1, 1, 1]) (m_means_Order_K K)) (m_means_Order_K K)) a H = codeP PP CC (subC (bodyC PP 27) [1, 1, 0]) (exP (fun (a : TE) (H : AH) => m_means_Orderttt K (a 5) H) (m_means_Order_K K)) a H := congrArg (fun k : KE => codeP PP CC (subC (bodyC PP 27) [1, 1, 0]) (exP k (m_means_Order_K K)) a H) (funext fun a => funext fun H => m_means_Orderttt_eq K a H)
  have h2b : codeP PP CC (subC (bodyC PP 27) [1, 1, 0]) (exP (fun (a : TE) (H : AH) => m_means_Orderttt K (a 5) H) (m_means_Order_K K)) a H = codeP PP CC (subC (bodyC PP 27) [1, 1, 0]) (m_means_Ordertt_k K) a H := by kernel_rfl
  ((h1.trans h2).trans h2b).trans (m_means_Ordertth_eq K a H)
abbrev m_means_Ordert_k (K : AV → AH → Prop) : KP := exP (fun (a : TE) (H : AH) => m_means_Ordertth K (a 0) (a 1) (a 5) H) (m_means_Order_K K)
def m_means_Ordert (K : AV → AH → Prop) (x0 x1 : AV) (H : AH) : Prop :=
  outP CC H (w_len PP 36 H x0) fun v1 H1 =>
  outP CC H1 (w_makeSlice PP 61 H1 v1 v1 none) fun v2 H2 =>
  m_means_Ordertth K x0 x1 v2 H2
theorem m_means_Ordert_eq (K : AV → AH → Prop) (a : TE) (H : AH) : codeP PP CC (subC (bodyC PP 27) [1]) (m_means_Order_K K) a H = m_means_Ordert K (a 0) (a 1) H :=
  have h1 : codeP PP CC (subC (bodyC PP 27) [1]) (m_means_Order_K K) a H = codeP PP CC (subC (bodyC PP 27) [1, 0]) (exP (codeP PP CC (subC (bodyC PP 27) [1, 1]) (m_means_Order_K K)) (m_means_Order_K K)) a H := by kernel_rfl
  have h2 : codeP PP CC (subC (bodyC PP 27) [1, 0]) (exP (codeP PP CC (subC (bodyC PP 27) [1, 1]) (m_means_Order_K K)) (m_means_Order_K K)) a H = codeP PP CC (subC (bodyC PP 27) [1, 0]) (exP (fun (a : TE) (H : AH) => m_means_Ordertth K (a 0) (a 1) (a 5) H) (m_means_Order_K K)) a H := congrArg (fun k : KE => codeP PP CC (subC (bodyC PP 27) [1, 0]) (exP k (m_means_Order_K K)) a H) (funext fun a => funext fun H => m_means_Ordertt_eq K a H)
  have h2b : codeP PP CC (subC (bodyC PP 27) [1, 0]) (exP (fun (a : TE) (H : AH) => m_means_Ordertth K (a 0) (a 1) (a 5) H) (m_means_Order_K K)) a H = codeP PP CC (subC (bodyC PP 27) [1, 0]) (m_means_Ordert_k K) a H := by kernel_rfl
  have h3 : codeP PP CC (subC (bodyC PP 27) [1, 0]) (m_means_Ordert_k K) a H = m_means_Ordert K (a 0) (a 1) H := by kernel_rfl
  ((h1.trans h2).trans h2b).trans h3
abbrev m_means_Order_k (K : AV → AH → Prop) : KP := exP (fun (a : TE) (H : AH) => m_means_Ordert K (a 0) (a 1) H) (m_means_Order_K K)
def m_means_Order (K : AV → AH → Prop) (x0 x1 : AV) (H : AH) : Prop :=
  m_means_Ordert K x0 x1 H
theorem m_means_Order_eq (K : AV → AH → Prop) (a : TE) (H : AH) : codeP PP CC (subC (bodyC PP 27) []) (m_means_Order_K K) a H = m_means_Order K (a 0) (a 1) H :=
  have h1 : codeP PP CC (subC (bodyC PP 27) []) (m_means_Order_K K) a H = codeP PP CC (subC (bodyC PP 27) [0]) (exP (codeP PP CC (subC (bodyC PP 27) [1]) (m_means_Order_K K)) (m_means_Order_K K)) a H := by kernel_rfl
  have h2 : codeP PP CC (subC (bodyC PP 27) [0]) (exP (codeP PP CC (subC (bodyC PP 27) [1]) (m_means_Order_K K)) (m_means_Order_K K)) a H = codeP PP CC (subC (bodyC PP 27) [0]) (exP (fun (a : TE) (H : AH) => m_means_Ordert K (a 0) (a 1) H) (m_means_Order_K K)) a H := congrArg (fun k : KE => codeP PP CC (subC (bodyC PP 27) [0]) (exP k (m_means_Order_K K)) a H) (funext fun a => funext fun H => m_means_Ordert_eq K a H)
  have h2b : codeP PP CC (subC (bodyC PP 27) [0]) (exP (fun (a : TE) (H : AH) => m_means_Ordert K (a 0) (a 1) H) (m_means_Order_K K)) a H = codeP PP CC (subC (bodyC PP 27) [0]) (m_means_Order_k K) a H := by kernel_rfl
  have h3 : codeP PP CC (subC (bodyC PP 27) [0]) (m_means_Order_k K) a H = m_means_Order K (a 0) (a 1) H := by kernel_rfl
  ((h1.trans h2).trans h2b).trans h3
theorem m_means_Order_ok (x0 x1 : AV) (H : AH) (K : AV → AH → Prop) (h : m_means_Order K x0 x1 H) : CC.call 27 [x0, x1] H K :=
  have h1 : funP PP CC 27 [x0, x1] H K = codeP PP CC (subC (bodyC PP 27) []) (m_means_Order_K K) (argE [x0, x1]) H := by kernel_rfl
  have h2 : m_means_Order K (argE [x0, x1] 0) (argE [x0, x1] 1) H = m_means_Order K x0 x1 H := by kernel_rfl
  funP_ok (P := PP) (by kernel_rfl) (by kernel_rfl) ((h1.trans ((m_means_Order_eq K (argE [x0, x1]) H).trans h2)).mpr h)

/-! 29: fieldfare/means.Nearest -/
abbrev m_means_Nearest_K (K : AV → AH → Prop) : KP := finP PP (resC PP 29) K
def m_means_Nearest (K : AV → AH → Prop) (x0 x1 : AV) (H : AH) : Prop :=
  outP CC H (w_len PP 36 H x0) fun v1 H1 =>
  outP CC H1 (w_int .eql H1 v1 (.int .i64 0)) fun v2 H2 =>
  condP v2
  (K (.int .i64 (-1)) H2)
  (outP CC H2 (some (.enter 27 [x0, x1])) fun v3 H3 =>
  outP CC H3 (w_indexAddr (.sl 1) H3 v3 (.int .i64 0)) fun v4 H4 =>
  outP CC H4 (w_load none H4 v4) fun v5 H5 =>
  K v5 H5)
theorem m_means_Nearest_eq (K : AV → AH → Prop) (a : TE) (H : AH) : codeP PP CC (subC (bodyC PP 29) []) (m_means_Nearest_K K) a H = m_means_Nearest K (a 0) (a 1) H :=
  by kernel_rfl
theorem m_means_Nearest_ok (x0 x1 : AV) (H : AH) (K : AV → AH → Prop) (h : m_means_Nearest K x0 x1 H) : CC.call 29 [x0, x1] H K :=
  have h1 : funP PP CC 29 [x0, x1] H K = codeP PP CC (subC (bodyC PP 29) []) (m_means_Nearest_K K) (argE [x0, x1]) H := by kernel_rfl
  have h2 : m_means_Nearest K (argE [x0, x1] 0) (argE [x0, x1] 1) H = m_means_Nearest K x0 x1 H := by kernel_rfl
  funP_ok (P := PP) (by kernel_rfl) (by kernel_rfl) ((h1.trans ((m_means_Nearest_eq K (argE [x0, x1]) H).trans h2)).mpr h)

end
end Go.Ab
