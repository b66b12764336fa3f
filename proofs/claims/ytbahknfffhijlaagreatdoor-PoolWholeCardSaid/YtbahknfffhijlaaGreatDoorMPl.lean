/- What functions do, said as what the evaluator does. Printed by a program. -/
import Derived.Test.YtbahknfffhijlaaGreatDoorBeg
import Derived.Test.YtbahknfffhijlaaGreatDoorEv3
namespace Go.Ab
noncomputable section
open Go.Proofs
set_option maxRecDepth 100000



/-! 23: slices.Concat[[]int,int] -/
abbrev m_slices_Concat_int_int_K (K : AV → AH → Prop) : KP := finP PP (resC PP 23) K
abbrev m_slices_Concat_int_inttttt_k (K : AV → AH → Prop) : KP := exP (codeP PP CC (subC (bodyC PP 23) [1, 1, 1, 1, 1]) (m_slices_Concat_int_int_K K)) (m_slices_Concat_int_int_K K)
abbrev m_slices_Concat_int_intttttht_k (K : AV → AH → Prop) : KP := blockP 2 (m_slices_Concat_int_inttttt_k K)
abbrev m_slices_Concat_int_inttttthtb_k (K : AV → AH → Prop) (r0 : (AV × AV × AV × AV) → AH → Prop) : KP := exP (fun (a : TE) (H : AH) => r0 (a 6, a 25, a 26, a 27) H) (m_slices_Concat_int_intttttht_k K)
def m_slices_Concat_int_inttttthtbl (K : AV → AH → Prop) (r0 : (AV × AV × AV × AV) → AH → Prop) (x6 x25 x26 x27 : AV) (H : AH) : Prop :=
  outP CC H (w_int .lss H x27 x26) fun v1 H1 =>
  condP v1
  (outP CC H1 (w_indexAddr (.sl 1) H1 x25 x27) fun v2 H2 =>
  outP CC H2 (w_load none H2 v2) fun v3 H3 =>
  outP CC H3 (w_append 3 1 8 H3 x6 v3 none) fun v4 H4 =>
  outP CC H4 (w_int .add H4 x27 (.int .i64 1)) fun v5 H5 =>
  r0 (v4, x25, x26, v5) H5)
  (K x6 H1)
theorem m_slices_Concat_int_inttttthtbl_eq (K : AV → AH → Prop) (r0 : (AV × AV × AV × AV) → AH → Prop) (a : TE) (H : AH) : codeP PP CC (subC (bodyC PP 23) [1, 1, 1, 1, 0, 1, 0, 0]) (m_slices_Concat_int_inttttthtb_k K r0) a H = m_slices_Concat_int_inttttthtbl K r0 (a 6) (a 25) (a 26) (a 27) H :=
  by kernel_rfl
def m_slices_Concat_int_inttttthtb (K : AV → AH → Prop) (x6 x25 x26 x27 : AV) (H : AH) : Prop :=
  loopP (fun (r0 : (AV × AV × AV × AV) → AH → Prop) (s : (AV × AV × AV × AV)) (H : AH) => m_slices_Concat_int_inttttthtbl K r0 s.1 s.2.1 s.2.2.1 s.2.2.2 H) (x6, x25, x26, x27) H
theorem m_slices_Concat_int_inttttthtb_eq (K : AV → AH → Prop) (a : TE) (H : AH) : codeP PP CC (subC (bodyC PP 23) [1, 1, 1, 1, 0, 1, 0]) (m_slices_Concat_int_intttttht_k K) a H = m_slices_Concat_int_inttttthtb K (a 6) (a 25) (a 26) (a 27) H :=
  have h1 : codeP PP CC (subC (bodyC PP 23) [1, 1, 1, 1, 0, 1, 0]) (m_slices_Concat_int_intttttht_k K) a H = loopP (fun (rec : KE) => codeP PP CC (subC (bodyC PP 23) [1, 1, 1, 1, 0, 1, 0, 0]) (exP rec (m_slices_Concat_int_intttttht_k K))) a H := by kernel_rfl
  have h2 := loopP_iso (F := fun (rec : KE) => codeP PP CC (subC (bodyC PP 23) [1, 1, 1, 1, 0, 1, 0, 0]) (exP rec (m_slices_Concat_int_intttttht_k K))) (S := (AV × AV × AV × AV)) (fun a => (a 6, a 25, a 26, a 27)) (fun (r0 : (AV × AV × AV × AV) → AH → Prop) (s : (AV × AV × AV × AV)) (H : AH) => m_slices_Concat_int_inttttthtbl K r0 s.1 s.2.1 s.2.2.1 s.2.2.2 H) (fun (r0 : (AV × AV × AV × AV) → AH → Prop) (a : TE) (H : AH) => (show codeP PP CC (subC (bodyC PP 23) [1, 1, 1, 1, 0, 1, 0, 0]) (exP (fun (a : TE) (H : AH) => r0 (a 6, a 25, a 26, a 27) H) (m_slices_Concat_int_intttttht_k K)) a H = codeP PP CC (subC (bodyC PP 23) [1, 1, 1, 1, 0, 1, 0, 0]) (m_slices_Concat_int_inttttthtb_k K r0) a H from by kernel_rfl).trans (m_slices_Concat_int_inttttthtbl_eq K r0 a H)) a H
  h1.trans h2
theorem m_slices_Concat_int_intttttht_eq (K : AV → AH → Prop) (a : TE) (H : AH) : codeP PP CC (subC (bodyC PP 23) [1, 1, 1, 1, 0, 1]) (m_slices_Concat_int_inttttt_k K) a H = m_slices_Concat_int_inttttthtb K (a 6) (a 25) (a 26) (a 27) H :=
  have h1 : codeP PP CC (subC (bodyC PP 23) [1, 1, 1, 1, 0, 1]) (m_slices_Concat_int_inttttt_k K) a H = codeP PP CC (subC (bodyC PP 23) [1, 1, 1, 1, 0, 1, 0]) (m_slices_Concat_int_intttttht_k K) a H := by kernel_rfl
  h1.trans (m_slices_Concat_int_inttttthtb_eq K a H)
abbrev m_slices_Concat_int_inttttth_k (K : AV → AH → Prop) : KP := exP (fun (a : TE) (H : AH) => m_slices_Concat_int_inttttthtb K (a 6) (a 25) (a 26) (a 27) H) (m_slices_Concat_int_inttttt_k K)
def m_slices_Concat_int_inttttth (K : AV → AH → Prop) (x0 x6 : AV) (H : AH) : Prop :=
  outP CC H (w_len PP 96 H x0) fun v1 H1 =>
  m_slices_Concat_int_inttttthtb K x6 x0 v1 (.int .i64 0) H1
theorem m_slices_Concat_int_inttttth_eq (K : AV → AH → Prop) (a : TE) (H : AH) : codeP PP CC (subC (bodyC PP 23) [1, 1, 1, 1, 0]) (m_slices_Concat_int_inttttt_k K) a H = m_slices_Concat_int_inttttth K (a 0) (a 6) H :=
  have h1 : codeP PP CC (subC (bodyC PP 23) [1, 1, 1, 1, 0]) (m_slices_Concat_int_inttttt_k K) a H = codeP PP CC (subC (bodyC PP 23) [1, 1, 1, 1, 0, 0]) (exP (codeP PP CC (subC (bodyC PP 23) [1, 1, 1, 1, 0, 1]) (m_slices_Concat_int_inttttt_k K)) (m_slices_Concat_int_inttttt_k K)) a H := by kernel_rfl
  have h2 : codeP PP CC (subC (bodyC PP 23) [1, 1, 1, 1, 0, 0]) (exP (codeP PP CC (subC (bodyC PP 23) [1, 1, 1, 1, 0, 1]) (m_slices_Concat_int_inttttt_k K)) (m_slices_Concat_int_inttttt_k K)) a H = codeP PP CC (subC (bodyC PP 23) [1, 1, 1, 1, 0, 0]) (exP (fun (a : TE) (H : AH) => m_slices_Concat_int_inttttthtb K (a 6) (a 25) (a 26) (a 27) H) (m_slices_Concat_int_inttttt_k K)) a H := congrArg (fun k : KE => codeP PP CC (subC (bodyC PP 23) [1, 1, 1, 1, 0, 0]) (exP k (m_slices_Concat_int_inttttt_k K)) a H) (funext fun a => funext fun H => m_slices_Concat_int_intttttht_eq K a H)
  have h2b : codeP PP CC (subC (bodyC PP 23) [1, 1, 1, 1, 0, 0]) (exP (fun (a : TE) (H : AH) => m_slices_Concat_int_inttttthtb K (a 6) (a 25) (a 26) (a 27) H) (m_slices_Concat_int_inttttt_k K)) a H = codeP PP CC (subC (bodyC PP 23) [1, 1, 1, 1, 0, 0]) (m_slices_Concat_int_inttttth_k K) a H := by kernel_rfl
  have h3 : codeP PP CC (subC (bodyC PP 23) [1, 1, 1, 1, 0, 0]) (m_slices_Concat_int_inttttth_k K) a H = m_slices_Concat_int_inttttth K (a 0) (a 6) H := by kernel_rfl
  ((h1.trans h2).trans h2b).trans h3
theorem m_slices_Concat_int_inttttt_eq (K : AV → AH → Prop) (a : TE) (H : AH) : codeP PP CC (subC (bodyC PP 23) [1, 1, 1, 1]) (m_slices_Concat_int_int_K K) a H = m_slices_Concat_int_inttttth K (a 0) (a 6) H :=
  have h1 : codeP PP CC (subC (bodyC PP 23) [1, 1, 1, 1]) (m_slices_Concat_int_int_K K) a H = codeP PP CC (subC (bodyC PP 23) [1, 1, 1, 1, 0]) (m_slices_Concat_int_inttttt_k K) a H := by kernel_rfl
  h1.trans (m_slices_Concat_int_inttttth_eq K a H)
abbrev m_slices_Concat_int_intttt_k (K : AV → AH → Prop) : KP := exP (fun (a : TE) (H : AH) => m_slices_Concat_int_inttttth K (a 0) (a 6) H) (m_slices_Concat_int_int_K K)
def m_slices_Concat_int_intttt (K : AV → AH → Prop) (x0 x3 : AV) (H : AH) : Prop :=
  outP CC H (some (.enter 50 [(.slice none 0 0 true), x3])) fun v1 H1 =>
  m_slices_Concat_int_inttttth K x0 v1 H1
theorem m_slices_Concat_int_intttt_eq (K : AV → AH → Prop) (a : TE) (H : AH) : codeP PP CC (subC (bodyC PP 23) [1, 1, 1]) (m_slices_Concat_int_int_K K) a H = m_slices_Concat_int_intttt K (a 0) (a 3) H :=
  have h1 : codeP PP CC (subC (bodyC PP 23) [1, 1, 1]) (m_slices_Concat_int_int_K K) a H = codeP PP CC (subC (bodyC PP 23) [1, 1, 1, 0]) (exP (codeP PP CC (subC (bodyC PP 23) [1, 1, 1, 1]) (m_slices_Concat_int_int_K K)) (m_slices_Concat_int_int_K K)) a H := by kernel_rfl
  have h2 : codeP PP CC (subC (bodyC PP 23) [1, 1, 1, 0]) (exP (codeP PP CC (subC (bodyC PP 23) [1, 1, 1, 1]) (m_slices_Concat_int_int_K K)) (m_slices_Concat_int_int_K K)) a H = codeP PP CC (subC (bodyC PP 23) [1, 1, 1, 0]) (exP (fun (a : TE) (H : AH) => m_slices_Concat_int_inttttth K (a 0) (a 6) H) (m_slices_Concat_int_int_K K)) a H := congrArg (fun k : KE => codeP PP CC (subC (bodyC PP 23) [1, 1, 1, 0]) (exP k (m_slices_Concat_int_int_K K)) a H) (funext fun a => funext fun H => m_slices_Concat_int_inttttt_eq K a H)
  have h2b : codeP PP CC (subC (bodyC PP 23) [1, 1, 1, 0]) (exP (fun (a : TE) (H : AH) => m_slices_Concat_int_inttttth K (a 0) (a 6) H) (m_slices_Concat_int_int_K K)) a H = codeP PP CC (subC (bodyC PP 23) [1, 1, 1, 0]) (m_slices_Concat_int_intttt_k K) a H := by kernel_rfl
  have h3 : codeP PP CC (subC (bodyC PP 23) [1, 1, 1, 0]) (m_slices_Concat_int_intttt_k K) a H = m_slices_Concat_int_intttt K (a 0) (a 3) H := by kernel_rfl
  ((h1.trans h2).trans h2b).trans h3
abbrev m_slices_Concat_int_inttt_k (K : AV → AH → Prop) : KP := exP (fun (a : TE) (H : AH) => m_slices_Concat_int_intttt K (a 0) (a 3) H) (m_slices_Concat_int_int_K K)
abbrev m_slices_Concat_int_intttht_k (K : AV → AH → Prop) : KP := blockP 0 (m_slices_Concat_int_inttt_k K)
abbrev m_slices_Concat_int_inttthtb_k (K : AV → AH → Prop) (r0 : (AV × AV × AV × AV × AV) → AH → Prop) : KP := exP (fun (a : TE) (H : AH) => r0 (a 0, a 3, a 9, a 10, a 11) H) (m_slices_Concat_int_intttht_k K)
def m_slices_Concat_int_inttthtbl (K : AV → AH → Prop) (r0 : (AV × AV × AV × AV × AV) → AH → Prop) (x0 x3 x9 x10 x11 : AV) (H : AH) : Prop :=
  outP CC H (w_int .lss H x11 x10) fun v1 H1 =>
  condP v1
  (outP CC H1 (w_indexAddr (.sl 1) H1 x9 x11) fun v2 H2 =>
  outP CC H2 (w_load none H2 v2) fun v3 H3 =>
  outP CC H3 (w_len PP 31 H3 v3) fun v4 H4 =>
  outP CC H4 (w_int .add H4 x3 v4) fun v5 H5 =>
  outP CC H5 (w_int .lss H5 v5 (.int .i64 0)) fun v6 H6 =>
  condP v6
  (outP CC H6 (some (.val (.iface 9 (.str [108, 101, 110, 32, 111, 117, 116, 32, 111, 102, 32, 114, 97, 110, 103, 101])) H6)) fun _v7 H7 =>
  outP CC H7 (none) fun _v8 H8 =>
  outP CC H8 (w_int .add H8 x11 (.int .i64 1)) fun v9 H9 =>
  r0 (x0, v5, x9, x10, v9) H9)
  (outP CC H6 (w_int .add H6 x11 (.int .i64 1)) fun v10 H10 =>
  r0 (x0, v5, x9, x10, v10) H10))
  (m_slices_Concat_int_intttt K x0 x3 H1)
theorem m_slices_Concat_int_inttthtbl_eq (K : AV → AH → Prop) (r0 : (AV × AV × AV × AV × AV) → AH → Prop) (a : TE) (H : AH) : codeP PP CC (subC (bodyC PP 23) [1, 1, 0, 1, 0, 0]) (m_slices_Concat_int_inttthtb_k K r0) a H = m_slices_Concat_int_inttthtbl K r0 (a 0) (a 3) (a 9) (a 10) (a 11) H :=
  by kernel_rfl
def m_slices_Concat_int_inttthtb (K : AV → AH → Prop) (x0 x3 x9 x10 x11 : AV) (H : AH) : Prop :=
  loopP (fun (r0 : (AV × AV × AV × AV × AV) → AH → Prop) (s : (AV × AV × AV × AV × AV)) (H : AH) => m_slices_Concat_int_inttthtbl K r0 s.1 s.2.1 s.2.2.1 s.2.2.2.1 s.2.2.2.2 H) (x0, x3, x9, x10, x11) H
theorem m_slices_Concat_int_inttthtb_eq (K : AV → AH → Prop) (a : TE) (H : AH) : codeP PP CC (subC (bodyC PP 23) [1, 1, 0, 1, 0]) (m_slices_Concat_int_intttht_k K) a H = m_slices_Concat_int_inttthtb K (a 0) (a 3) (a 9) (a 10) (a 11) H :=
  have h1 : codeP PP CC (subC (bodyC PP 23) [1, 1, 0, 1, 0]) (m_slices_Concat_int_intttht_k K) a H = loopP (fun (rec : KE) => codeP PP CC (subC (bodyC PP 23) [1, 1, 0, 1, 0, 0]) (exP rec (m_slices_Concat_int_intttht_k K))) a H := by kernel_rfl
  have h2 := loopP_iso (F := fun (rec : KE) => codeP PP CC (subC (bodyC PP 23) [1, 1, 0, 1, 0, 0]) (exP rec (m_slices_Concat_int_intttht_k K))) (S := (AV × AV × AV × AV × AV)) (fun a => (a 0, a 3, a 9, a 10, a 11)) (fun (r0 : (AV × AV × AV × AV × AV) → AH → Prop) (s : (AV × AV × AV × AV × AV)) (H : AH) => m_slices_Concat_int_inttthtbl K r0 s.1 s.2.1 s.2.2.1 s.2.2.2.1 s.2.2.2.2 H) (fun (r0 : (AV × AV × AV × AV × AV) → AH → Prop) (a : TE) (H : AH) => (show codeP PP CC (subC (bodyC PP 23) [1, 1, 0, 1, 0, 0]) (exP (fun (a : TE) (H : AH) => r0 (a 0, a 3, a 9, a 10, a 11) H) (m_slices_Concat_int_intttht_k K)) a H = codeP PP CC (subC (bodyC PP 23) [1, 1, 0, 1, 0, 0]) (m_slices_Concat_int_inttthtb_k K r0) a H from by kernel_rfl).trans (m_slices_Concat_int_inttthtbl_eq K r0 a H)) a H
  h1.trans h2
theorem m_slices_Concat_int_intttht_eq (K : AV → AH → Prop) (a : TE) (H : AH) : codeP PP CC (subC (bodyC PP 23) [1, 1, 0, 1]) (m_slices_Concat_int_inttt_k K) a H = m_slices_Concat_int_inttthtb K (a 0) (a 3) (a 9) (a 10) (a 11) H :=
  have h1 : codeP PP CC (subC (bodyC PP 23) [1, 1, 0, 1]) (m_slices_Concat_int_inttt_k K) a H = codeP PP CC (subC (bodyC PP 23) [1, 1, 0, 1, 0]) (m_slices_Concat_int_intttht_k K) a H := by kernel_rfl
  h1.trans (m_slices_Concat_int_inttthtb_eq K a H)
abbrev m_slices_Concat_int_inttth_k (K : AV → AH → Prop) : KP := exP (fun (a : TE) (H : AH) => m_slices_Concat_int_inttthtb K (a 0) (a 3) (a 9) (a 10) (a 11) H) (m_slices_Concat_int_inttt_k K)
def m_slices_Concat_int_inttth (K : AV → AH → Prop) (x0 x3 : AV) (H : AH) : Prop :=
  outP CC H (w_len PP 96 H x0) fun v1 H1 =>
  m_slices_Concat_int_inttthtb K x0 x3 x0 v1 (.int .i64 0) H1
theorem m_slices_Concat_int_inttth_eq (K : AV → AH → Prop) (a : TE) (H : AH) : codeP PP CC (subC (bodyC PP 23) [1, 1, 0]) (m_slices_Concat_int_inttt_k K) a H = m_slices_Concat_int_inttth K (a 0) (a 3) H :=
  have h1 : codeP PP CC (subC (bodyC PP 23) [1, 1, 0]) (m_slices_Concat_int_inttt_k K) a H = codeP PP CC (subC (bodyC PP 23) [1, 1, 0, 0]) (exP (codeP PP CC (subC (bodyC PP 23) [1, 1, 0, 1]) (m_slices_Concat_int_inttt_k K)) (m_slices_Concat_int_inttt_k K)) a H := by kernel_rfl
  have h2 : codeP PP CC (subC (bodyC PP 23) [1, 1, 0, 0]) (exP (codeP PP CC (subC (bodyC PP 23) [1, 1, 0, 1]) (m_slices_Concat_int_inttt_k K)) (m_slices_Concat_int_inttt_k K)) a H = codeP PP CC (subC (bodyC PP 23) [1, 1, 0, 0]) (exP (fun (a : TE) (H : AH) => m_slices_Concat_int_inttthtb K (a 0) (a 3) (a 9) (a 10) (a 11) H) (m_slices_Concat_int_inttt_k K)) a H := congrArg (fun k : KE => codeP PP CC (subC (bodyC PP 23) [1, 1, 0, 0]) (exP k (m_slices_Concat_int_inttt_k K)) a H) (funext fun a => funext fun H => m_slices_Concat_int_intttht_eq K a H)
  have h2b : codeP PP CC (subC (bodyC PP 23) [1, 1, 0, 0]) (exP (fun (a : TE) (H : AH) => m_slices_Concat_int_inttthtb K (a 0) (a 3) (a 9) (a 10) (a 11) H) (m_slices_Concat_int_inttt_k K)) a H = codeP PP CC (subC (bodyC PP 23) [1, 1, 0, 0]) (m_slices_Concat_int_inttth_k K) a H := by kernel_rfl
  have h3 : codeP PP CC (subC (bodyC PP 23) [1, 1, 0, 0]) (m_slices_Concat_int_inttth_k K) a H = m_slices_Concat_int_inttth K (a 0) (a 3) H := by kernel_rfl
  ((h1.trans h2).trans h2b).trans h3
theorem m_slices_Concat_int_inttt_eq (K : AV → AH → Prop) (a : TE) (H : AH) : codeP PP CC (subC (bodyC PP 23) [1, 1]) (m_slices_Concat_int_int_K K) a H = m_slices_Concat_int_inttth K (a 0) (a 3) H :=
  have h1 : codeP PP CC (subC (bodyC PP 23) [1, 1]) (m_slices_Concat_int_int_K K) a H = codeP PP CC (subC (bodyC PP 23) [1, 1, 0]) (exP (codeP PP CC (subC (bodyC PP 23) [1, 1, 1]) (m_slices_Concat_int_int_K K)) (m_slices_Concat_int_int_K K)) a H := by kernel_rfl
  have h2 : codeP PP CC (subC (bodyC PP 23) [1, 1, 0]) (exP (codeP PP CC (subC (bodyC PP 23) [1, 1, 1]) (m_slices_Concat_int_int_K K)) (m_slices_Concat_int_int_K K)) a H = codeP PP CC (subC (bodyC PP 23) [1, 1, 0]) (exP (fun (a : TE) (H : AH) => m_slices_Concat_int_intttt K (a 0) (a 3) H) (m_slices_Concat_int_int_K K)) a H := congrArg (fun k : KE => codeP PP CC (subC (bodyC PP 23) [1, 1, 0]) (exP k (m_slices_Concat_int_int_K K)) a H) (funext fun a => funext fun H => m_slices_Concat_int_intttt_eq K a H)
  have h2b : codeP PP CC (subC (bodyC PP 23) [1, 1, 0]) (exP (fun (a : TE) (H : AH) => m_slices_Concat_int_intttt K (a 0) (a 3) H) (m_slices_Concat_int_int_K K)) a H = codeP PP CC (subC (bodyC PP 23) [1, 1, 0]) (m_slices_Concat_int_inttt_k K) a H := by kernel_rfl
  ((h1.trans h2).trans h2b).trans (m_slices_Concat_int_inttth_eq K a H)
abbrev m_slices_Concat_int_intt_k (K : AV → AH → Prop) : KP := exP (fun (a : TE) (H : AH) => m_slices_Concat_int_inttth K (a 0) (a 3) H) (m_slices_Concat_int_int_K K)
def m_slices_Concat_int_intt (K : AV → AH → Prop) (x0 : AV) (H : AH) : Prop :=
  m_slices_Concat_int_inttth K x0 (.int .i64 0) H
theorem m_slices_Concat_int_intt_eq (K : AV → AH → Prop) (a : TE) (H : AH) : codeP PP CC (subC (bodyC PP 23) [1]) (m_slices_Concat_int_int_K K) a H = m_slices_Concat_int_intt K (a 0) H :=
  have h1 : codeP PP CC (subC (bodyC PP 23) [1]) (m_slices_Concat_int_int_K K) a H = codeP PP CC (subC (bodyC PP 23) [1, 0]) (exP (codeP PP CC (subC (bodyC PP 23) [1, 1]) (m_slices_Concat_int_int_K K)) (m_slices_Concat_int_int_K K)) a H := by kernel_rfl
  have h2 : codeP PP CC (subC (bodyC PP 23) [1, 0]) (exP (codeP PP CC (subC (bodyC PP 23) [1, 1]) (m_slices_Concat_int_int_K K)) (m_slices_Concat_int_int_K K)) a H = codeP PP CC (subC (bodyC PP 23) [1, 0]) (exP (fun (a : TE) (H : AH) => m_slices_Concat_int_inttth K (a 0) (a 3) H) (m_slices_Concat_int_int_K K)) a H := congrArg (fun k : KE => codeP PP CC (subC (bodyC PP 23) [1, 0]) (exP k (m_slices_Concat_int_int_K K)) a H) (funext fun a => funext fun H => m_slices_Concat_int_inttt_eq K a H)
  have h2b : codeP PP CC (subC (bodyC PP 23) [1, 0]) (exP (fun (a : TE) (H : AH) => m_slices_Concat_int_inttth K (a 0) (a 3) H) (m_slices_Concat_int_int_K K)) a H = codeP PP CC (subC (bodyC PP 23) [1, 0]) (m_slices_Concat_int_intt_k K) a H := by kernel_rfl
  have h3 : codeP PP CC (subC (bodyC PP 23) [1, 0]) (m_slices_Concat_int_intt_k K) a H = m_slices_Concat_int_intt K (a 0) H := by kernel_rfl
  ((h1.trans h2).trans h2b).trans h3
abbrev m_slices_Concat_int_int_k (K : AV → AH → Prop) : KP := exP (fun (a : TE) (H : AH) => m_slices_Concat_int_intt K (a 0) H) (m_slices_Concat_int_int_K K)
def m_slices_Concat_int_int (K : AV → AH → Prop) (x0 : AV) (H : AH) : Prop :=
  m_slices_Concat_int_intt K x0 H
theorem m_slices_Concat_int_int_eq (K : AV → AH → Prop) (a : TE) (H : AH) : codeP PP CC (subC (bodyC PP 23) []) (m_slices_Concat_int_int_K K) a H = m_slices_Concat_int_int K (a 0) H :=
  have h1 : codeP PP CC (subC (bodyC PP 23) []) (m_slices_Concat_int_int_K K) a H = codeP PP CC (subC (bodyC PP 23) [0]) (exP (codeP PP CC (subC (bodyC PP 23) [1]) (m_slices_Concat_int_int_K K)) (m_slices_Concat_int_int_K K)) a H := by kernel_rfl
  have h2 : codeP PP CC (subC (bodyC PP 23) [0]) (exP (codeP PP CC (subC (bodyC PP 23) [1]) (m_slices_Concat_int_int_K K)) (m_slices_Concat_int_int_K K)) a H = codeP PP CC (subC (bodyC PP 23) [0]) (exP (fun (a : TE) (H : AH) => m_slices_Concat_int_intt K (a 0) H) (m_slices_Concat_int_int_K K)) a H := congrArg (fun k : KE => codeP PP CC (subC (bodyC PP 23) [0]) (exP k (m_slices_Concat_int_int_K K)) a H) (funext fun a => funext fun H => m_slices_Concat_int_intt_eq K a H)
  have h2b : codeP PP CC (subC (bodyC PP 23) [0]) (exP (fun (a : TE) (H : AH) => m_slices_Concat_int_intt K (a 0) H) (m_slices_Concat_int_int_K K)) a H = codeP PP CC (subC (bodyC PP 23) [0]) (m_slices_Concat_int_int_k K) a H := by kernel_rfl
  have h3 : codeP PP CC (subC (bodyC PP 23) [0]) (m_slices_Concat_int_int_k K) a H = m_slices_Concat_int_int K (a 0) H := by kernel_rfl
  ((h1.trans h2).trans h2b).trans h3
theorem m_slices_Concat_int_int_ok (x0 : AV) (H : AH) (K : AV → AH → Prop) (h : m_slices_Concat_int_int K x0 H) : CC.call 23 [x0] H K :=
  have h1 : funP PP CC 23 [x0] H K = codeP PP CC (subC (bodyC PP 23) []) (m_slices_Concat_int_int_K K) (argE [x0]) H := by kernel_rfl
  have h2 : m_slices_Concat_int_int K (argE [x0] 0) H = m_slices_Concat_int_int K x0 H := by kernel_rfl
  funP_ok (P := PP) (by kernel_rfl) (by kernel_rfl) ((h1.trans ((m_slices_Concat_int_int_eq K (argE [x0]) H).trans h2)).mpr h)

/-! 29: slices.Clone[[]int,int] -/
abbrev m_slices_Clone_int_int_K (K : AV → AH → Prop) : KP := finP PP (resC PP 29) K
def m_slices_Clone_int_int (K : AV → AH → Prop) (x0 : AV) (H : AH) : Prop :=
  outP CC H (w_eq PP .eql 31 false true H x0 (.slice none 0 0 true)) fun v1 H1 =>
  condP v1
  (K (.slice none 0 0 true) H1)
  (outP CC H1 (w_buildSlice PP 3 0 H1 [] none) fun v2 H2 =>
  outP CC H2 (w_append 3 1 8 H2 v2 x0 none) fun v3 H3 =>
  K v3 H3)
theorem m_slices_Clone_int_int_eq (K : AV → AH → Prop) (a : TE) (H : AH) : codeP PP CC (subC (bodyC PP 29) []) (m_slices_Clone_int_int_K K) a H = m_slices_Clone_int_int K (a 0) H :=
  by kernel_rfl
theorem m_slices_Clone_int_int_ok (x0 : AV) (H : AH) (K : AV → AH → Prop) (h : m_slices_Clone_int_int K x0 H) : CC.call 29 [x0] H K :=
  have h1 : funP PP CC 29 [x0] H K = codeP PP CC (subC (bodyC PP 29) []) (m_slices_Clone_int_int_K K) (argE [x0]) H := by kernel_rfl
  have h2 : m_slices_Clone_int_int K (argE [x0] 0) H = m_slices_Clone_int_int K x0 H := by kernel_rfl
  funP_ok (P := PP) (by kernel_rfl) (by kernel_rfl) ((h1.trans ((m_slices_Clone_int_int_eq K (argE [x0]) H).trans h2)).mpr h)

/-! 50: slices.Grow[[]int,int] -/
abbrev m_slices_Grow_int_int_K (K : AV → AH → Prop) : KP := finP PP (resC PP 50) K
def m_slices_Grow_int_inttt (K : AV → AH → Prop) (x0 x1 : AV) (H : AH) : Prop :=
  outP CC H (w_cap PP 31 H x0) fun v1 H1 =>
  outP CC H1 (w_len PP 31 H1 x0) fun v2 H2 =>
  outP CC H2 (w_int .sub H2 v1 v2) fun v3 H3 =>
  outP CC H3 (w_int .sub H3 x1 v3) fun v4 H4 =>
  outP CC H4 (w_int .gtr H4 v4 (.int .i64 0)) fun v5 H5 =>
  condP v5
  (outP CC H5 (w_cap PP 31 H5 x0) fun v6 H6 =>
  outP CC H6 (w_slice (.sl 1) true false H6 x0 none (some v6) none) fun v7 H7 =>
  outP CC H7 (w_appendZ 3 1 8 [(.int .i64 0)] H7 v7 v4 none) fun v8 H8 =>
  outP CC H8 (w_len PP 31 H8 x0) fun v9 H9 =>
  outP CC H9 (w_slice (.sl 1) true false H9 v8 none (some v9) none) fun v10 H10 =>
  K v10 H10)
  (K x0 H5)
theorem m_slices_Grow_int_inttt_eq (K : AV → AH → Prop) (a : TE) (H : AH) : codeP PP CC (subC (bodyC PP 50) [1, 1]) (m_slices_Grow_int_int_K K) a H = m_slices_Grow_int_inttt K (a 0) (a 1) H :=
  by kernel_rfl
abbrev m_slices_Grow_int_intt_k (K : AV → AH → Prop) : KP := exP (fun (a : TE) (H : AH) => m_slices_Grow_int_inttt K (a 0) (a 1) H) (m_slices_Grow_int_int_K K)
def m_slices_Grow_int_intt (K : AV → AH → Prop) (x0 x1 : AV) (H : AH) : Prop :=
  outP CC H (w_int .lss H x1 (.int .i64 0)) fun v1 H1 =>
  condP v1
  (outP CC H1 (some (.val (.iface 9 (.str [99, 97, 110, 110, 111, 116, 32, 98, 101, 32, 110, 101, 103, 97, 116, 105, 118, 101])) H1)) fun _v2 H2 =>
  outP CC H2 (none) fun _v3 H3 =>
  m_slices_Grow_int_inttt K x0 x1 H3)
  (m_slices_Grow_int_inttt K x0 x1 H1)
theorem m_slices_Grow_int_intt_eq (K : AV → AH → Prop) (a : TE) (H : AH) : codeP PP CC (subC (bodyC PP 50) [1]) (m_slices_Grow_int_int_K K) a H = m_slices_Grow_int_intt K (a 0) (a 1) H :=
  have h1 : codeP PP CC (subC (bodyC PP 50) [1]) (m_slices_Grow_int_int_K K) a H = codeP PP CC (subC (bodyC PP 50) [1, 0]) (exP (codeP PP CC (subC (bodyC PP 50) [1, 1]) (m_slices_Grow_int_int_K K)) (m_slices_Grow_int_int_K K)) a H := by kernel_rfl
  have h2 : codeP PP CC (subC (bodyC PP 50) [1, 0]) (exP (codeP PP CC (subC (bodyC PP 50) [1, 1]) (m_slices_Grow_int_int_K K)) (m_slices_Grow_int_int_K K)) a H = codeP PP CC (subC (bodyC PP 50) [1, 0]) (exP (fun (a : TE) (H : AH) => m_slices_Grow_int_inttt K (a 0) (a 1) H) (m_slices_Grow_int_int_K K)) a H := congrArg (fun k : KE => codeP PP CC (subC (bodyC PP 50) [1, 0]) (exP k (m_slices_Grow_int_int_K K)) a H) (funext fun a => funext fun H => m_slices_Grow_int_inttt_eq K a H)
  have h2b : codeP PP CC (subC (bodyC PP 50) [1, 0]) (exP (fun (a : TE) (H : AH) => m_slices_Grow_int_inttt K (a 0) (a 1) H) (m_slices_Grow_int_int_K K)) a H = codeP PP CC (subC (bodyC PP 50) [1, 0]) (m_slices_Grow_int_intt_k K) a H := by kernel_rfl
  have h3 : codeP PP CC (subC (bodyC PP 50) [1, 0]) (m_slices_Grow_int_intt_k K) a H = m_slices_Grow_int_intt K (a 0) (a 1) H := by kernel_rfl
  ((h1.trans h2).trans h2b).trans h3
abbrev m_slices_Grow_int_int_k (K : AV → AH → Prop) : KP := exP (fun (a : TE) (H : AH) => m_slices_Grow_int_intt K (a 0) (a 1) H) (m_slices_Grow_int_int_K K)
def m_slices_Grow_int_int (K : AV → AH → Prop) (x0 x1 : AV) (H : AH) : Prop :=
  m_slices_Grow_int_intt K x0 x1 H
theorem m_slices_Grow_int_int_eq (K : AV → AH → Prop) (a : TE) (H : AH) : codeP PP CC (subC (bodyC PP 50) []) (m_slices_Grow_int_int_K K) a H = m_slices_Grow_int_int K (a 0) (a 1) H :=
  have h1 : codeP PP CC (subC (bodyC PP 50) []) (m_slices_Grow_int_int_K K) a H = codeP PP CC (subC (bodyC PP 50) [0]) (exP (codeP PP CC (subC (bodyC PP 50) [1]) (m_slices_Grow_int_int_K K)) (m_slices_Grow_int_int_K K)) a H := by kernel_rfl
  have h2 : codeP PP CC (subC (bodyC PP 50) [0]) (exP (codeP PP CC (subC (bodyC PP 50) [1]) (m_slices_Grow_int_int_K K)) (m_slices_Grow_int_int_K K)) a H = codeP PP CC (subC (bodyC PP 50) [0]) (exP (fun (a : TE) (H : AH) => m_slices_Grow_int_intt K (a 0) (a 1) H) (m_slices_Grow_int_int_K K)) a H := congrArg (fun k : KE => codeP PP CC (subC (bodyC PP 50) [0]) (exP k (m_slices_Grow_int_int_K K)) a H) (funext fun a => funext fun H => m_slices_Grow_int_intt_eq K a H)
  have h2b : codeP PP CC (subC (bodyC PP 50) [0]) (exP (fun (a : TE) (H : AH) => m_slices_Grow_int_intt K (a 0) (a 1) H) (m_slices_Grow_int_int_K K)) a H = codeP PP CC (subC (bodyC PP 50) [0]) (m_slices_Grow_int_int_k K) a H := by kernel_rfl
  have h3 : codeP PP CC (subC (bodyC PP 50) [0]) (m_slices_Grow_int_int_k K) a H = m_slices_Grow_int_int K (a 0) (a 1) H := by kernel_rfl
  ((h1.trans h2).trans h2b).trans h3
theorem m_slices_Grow_int_int_ok (x0 x1 : AV) (H : AH) (K : AV → AH → Prop) (h : m_slices_Grow_int_int K x0 x1 H) : CC.call 50 [x0, x1] H K :=
  have h1 : funP PP CC 50 [x0, x1] H K = codeP PP CC (subC (bodyC PP 50) []) (m_slices_Grow_int_int_K K) (argE [x0, x1]) H := by kernel_rfl
  have h2 : m_slices_Grow_int_int K (argE [x0, x1] 0) (argE [x0, x1] 1) H = m_slices_Grow_int_int K x0 x1 H := by kernel_rfl
  funP_ok (P := PP) (by kernel_rfl) (by kernel_rfl) ((h1.trans ((m_slices_Grow_int_int_eq K (argE [x0, x1]) H).trans h2)).mpr h)

end
end Go.Ab
