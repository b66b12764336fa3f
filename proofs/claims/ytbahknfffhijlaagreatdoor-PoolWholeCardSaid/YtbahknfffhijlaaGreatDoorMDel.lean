/- What functions do, said as what the evaluator does. Printed by a program. -/
import Derived.Test.YtbahknfffhijlaaGreatDoorBeg
import Derived.Test.YtbahknfffhijlaaGreatDoorEv3
namespace Go.Ab
noncomputable section
open Go.Proofs
set_option maxRecDepth 100000



/-! 27: slices.DeleteFunc[[]int,int] -/
abbrev m_slices_DeleteFunc_int_int_K (K : AV → AH → Prop) : KP := finP PP (resC PP 27) K
abbrev m_slices_DeleteFunc_int_intttt_k (K : AV → AH → Prop) : KP := exP (codeP PP CC (subC (bodyC PP 27) [1, 1, 1, 1]) (m_slices_DeleteFunc_int_int_K K)) (m_slices_DeleteFunc_int_int_K K)
abbrev m_slices_DeleteFunc_int_inttttht_k (K : AV → AH → Prop) : KP := blockP 0 (m_slices_DeleteFunc_int_intttt_k K)
abbrev m_slices_DeleteFunc_int_intttthtb_k (K : AV → AH → Prop) (r0 : (AV × AV × AV × AV) → AH → Prop) : KP := exP (fun (a : TE) (H : AH) => r0 (a 0, a 1, a 5, a 6) H) (m_slices_DeleteFunc_int_inttttht_k K)
def m_slices_DeleteFunc_int_intttthtbltt (_K : AV → AH → Prop) (r0 : (AV × AV × AV × AV) → AH → Prop) (x0 x1 x5 x6 : AV) (H : AH) : Prop :=
  outP CC H (w_int .add H x6 (.int .i64 1)) fun v1 H1 =>
  r0 (x0, x1, x5, v1) H1
theorem m_slices_DeleteFunc_int_intttthtbltt_eq (K : AV → AH → Prop) (r0 : (AV × AV × AV × AV) → AH → Prop) (a : TE) (H : AH) : codeP PP CC (subC (bodyC PP 27) [1, 1, 1, 0, 1, 0, 0, 1, 1]) (m_slices_DeleteFunc_int_intttthtb_k K r0) a H = m_slices_DeleteFunc_int_intttthtbltt K r0 (a 0) (a 1) (a 5) (a 6) H :=
  by kernel_rfl
abbrev m_slices_DeleteFunc_int_intttthtblt_k (K : AV → AH → Prop) (r0 : (AV × AV × AV × AV) → AH → Prop) : KP := exP (fun (a : TE) (H : AH) => m_slices_DeleteFunc_int_intttthtbltt K r0 (a 0) (a 1) (a 5) (a 6) H) (m_slices_DeleteFunc_int_intttthtb_k K r0)
def m_slices_DeleteFunc_int_intttthtblt (K : AV → AH → Prop) (r0 : (AV × AV × AV × AV) → AH → Prop) (x0 x1 x5 x6 : AV) (H : AH) : Prop :=
  outP CC H (w_indexAddr (.sl 1) H x0 x6) fun v1 H1 =>
  outP CC H1 (w_load none H1 v1) fun v2 H2 =>
  outP CC H2 (callV [v2] x1) fun v3 H3 =>
  outP CC H3 (w_un .not H3 v3) fun v4 H4 =>
  condP v4
  (outP CC H4 (w_indexAddr (.sl 1) H4 x0 x5) fun v5 H5 =>
  outP CC H5 (w_store 1 H5 v5 v2) fun _v6 H6 =>
  outP CC H6 (w_int .add H6 x5 (.int .i64 1)) fun v7 H7 =>
  m_slices_DeleteFunc_int_intttthtbltt K r0 x0 x1 v7 x6 H7)
  (m_slices_DeleteFunc_int_intttthtbltt K r0 x0 x1 x5 x6 H4)
theorem m_slices_DeleteFunc_int_intttthtblt_eq (K : AV → AH → Prop) (r0 : (AV × AV × AV × AV) → AH → Prop) (a : TE) (H : AH) : codeP PP CC (subC (bodyC PP 27) [1, 1, 1, 0, 1, 0, 0, 1]) (m_slices_DeleteFunc_int_intttthtb_k K r0) a H = m_slices_DeleteFunc_int_intttthtblt K r0 (a 0) (a 1) (a 5) (a 6) H :=
  have h1 : codeP PP CC (subC (bodyC PP 27) [1, 1, 1, 0, 1, 0, 0, 1]) (m_slices_DeleteFunc_int_intttthtb_k K r0) a H = codeP PP CC (subC (bodyC PP 27) [1, 1, 1, 0, 1, 0, 0, 1, 0]) (exP (codeP PP CC (subC (bodyC PP 27) [1, 1, 1, 0, 1, 0, 0, 1, 1]) (m_slices_DeleteFunc_int_intttthtb_k K r0)) (m_slices_DeleteFunc_int_intttthtb_k K r0)) a H := by kernel_rfl
  have h2 : codeP PP CC (subC (bodyC PP 27) [1, 1, 1, 0, 1, 0, 0, 1, 0]) (exP (codeP PP CC (subC (bodyC PP 27) [1, 1, 1, 0, 1, 0, 0, 1, 1]) (m_slices_DeleteFunc_int_intttthtb_k K r0)) (m_slices_DeleteFunc_int_intttthtb_k K r0)) a H = codeP PP CC (subC (bodyC PP 27) [1, 1, 1, 0, 1, 0, 0, 1, 0]) (exP (fun (a : TE) (H : AH) => m_slices_DeleteFunc_int_intttthtbltt K r0 (a 0) (a 1) (a 5) (a 6) H) (m_slices_DeleteFunc_int_intttthtb_k K r0)) a H := congrArg (fun k : KE => codeP PP CC (subC (bodyC PP 27) [1, 1, 1, 0, 1, 0, 0, 1, 0]) (exP k (m_slices_DeleteFunc_int_intttthtb_k K r0)) a H) (funext fun a => funext fun H => m_slices_DeleteFunc_int_intttthtbltt_eq K r0 a H)
  have h2b : codeP PP CC (subC (bodyC PP 27) [1, 1, 1, 0, 1, 0, 0, 1, 0]) (exP (fun (a : TE) (H : AH) => m_slices_DeleteFunc_int_intttthtbltt K r0 (a 0) (a 1) (a 5) (a 6) H) (m_slices_DeleteFunc_int_intttthtb_k K r0)) a H = codeP PP CC (subC (bodyC PP 27) [1, 1, 1, 0, 1, 0, 0, 1, 0]) (m_slices_DeleteFunc_int_intttthtblt_k K r0) a H := by kernel_rfl
  have h3 : codeP PP CC (subC (bodyC PP 27) [1, 1, 1, 0, 1, 0, 0, 1, 0]) (m_slices_DeleteFunc_int_intttthtblt_k K r0) a H = m_slices_DeleteFunc_int_intttthtblt K r0 (a 0) (a 1) (a 5) (a 6) H := by kernel_rfl
  ((h1.trans h2).trans h2b).trans h3
abbrev m_slices_DeleteFunc_int_intttthtbl_k (K : AV → AH → Prop) (r0 : (AV × AV × AV × AV) → AH → Prop) : KP := exP (fun (a : TE) (H : AH) => m_slices_DeleteFunc_int_intttthtblt K r0 (a 0) (a 1) (a 5) (a 6) H) (m_slices_DeleteFunc_int_intttthtb_k K r0)
def m_slices_DeleteFunc_int_intttthtbl (K : AV → AH → Prop) (r0 : (AV × AV × AV × AV) → AH → Prop) (x0 x1 x5 x6 : AV) (H : AH) : Prop :=
  outP CC H (w_len PP 31 H x0) fun v1 H1 =>
  outP CC H1 (w_int .lss H1 x6 v1) fun v2 H2 =>
  condP v2
  (m_slices_DeleteFunc_int_intttthtblt K r0 x0 x1 x5 x6 H2)
  (outP CC H2 (w_slice (.sl 1) false false H2 x0 (some x5) none none) fun v3 H3 =>
  outP CC H3 (w_clear PP 31 H3 v3) fun _v4 H4 =>
  outP CC H4 (w_slice (.sl 1) true false H4 x0 none (some x5) none) fun v5 H5 =>
  K v5 H5)
theorem m_slices_DeleteFunc_int_intttthtbl_eq (K : AV → AH → Prop) (r0 : (AV × AV × AV × AV) → AH → Prop) (a : TE) (H : AH) : codeP PP CC (subC (bodyC PP 27) [1, 1, 1, 0, 1, 0, 0]) (m_slices_DeleteFunc_int_intttthtb_k K r0) a H = m_slices_DeleteFunc_int_intttthtbl K r0 (a 0) (a 1) (a 5) (a 6) H :=
  have h1 : codeP PP CC (subC (bodyC PP 27) [1, 1, 1, 0, 1, 0, 0]) (m_slices_DeleteFunc_int_intttthtb_k K r0) a H = codeP PP CC (subC (bodyC PP 27) [1, 1, 1, 0, 1, 0, 0, 0]) (exP (codeP PP CC (subC (bodyC PP 27) [1, 1, 1, 0, 1, 0, 0, 1]) (m_slices_DeleteFunc_int_intttthtb_k K r0)) (m_slices_DeleteFunc_int_intttthtb_k K r0)) a H := by kernel_rfl
  have h2 : codeP PP CC (subC (bodyC PP 27) [1, 1, 1, 0, 1, 0, 0, 0]) (exP (codeP PP CC (subC (bodyC PP 27) [1, 1, 1, 0, 1, 0, 0, 1]) (m_slices_DeleteFunc_int_intttthtb_k K r0)) (m_slices_DeleteFunc_int_intttthtb_k K r0)) a H = codeP PP CC (subC (bodyC PP 27) [1, 1, 1, 0, 1, 0, 0, 0]) (exP (fun (a : TE) (H : AH) => m_slices_DeleteFunc_int_intttthtblt K r0 (a 0) (a 1) (a 5) (a 6) H) (m_slices_DeleteFunc_int_intttthtb_k K r0)) a H := congrArg (fun k : KE => codeP PP CC (subC (bodyC PP 27) [1, 1, 1, 0, 1, 0, 0, 0]) (exP k (m_slices_DeleteFunc_int_intttthtb_k K r0)) a H) (funext fun a => funext fun H => m_slices_DeleteFunc_int_intttthtblt_eq K r0 a H)
  have h2b : codeP PP CC (subC (bodyC PP 27) [1, 1, 1, 0, 1, 0, 0, 0]) (exP (fun (a : TE) (H : AH) => m_slices_DeleteFunc_int_intttthtblt K r0 (a 0) (a 1) (a 5) (a 6) H) (m_slices_DeleteFunc_int_intttthtb_k K r0)) a H = codeP PP CC (subC (bodyC PP 27) [1, 1, 1, 0, 1, 0, 0, 0]) (m_slices_DeleteFunc_int_intttthtbl_k K r0) a H := by kernel_rfl
  have h3 : codeP PP CC (subC (bodyC PP 27) [1, 1, 1, 0, 1, 0, 0, 0]) (m_slices_DeleteFunc_int_intttthtbl_k K r0) a H = m_slices_DeleteFunc_int_intttthtbl K r0 (a 0) (a 1) (a 5) (a 6) H := by kernel_rfl
  ((h1.trans h2).trans h2b).trans h3
def m_slices_DeleteFunc_int_intttthtb (K : AV → AH → Prop) (x0 x1 x5 x6 : AV) (H : AH) : Prop :=
  loopP (fun (r0 : (AV × AV × AV × AV) → AH → Prop) (s : (AV × AV × AV × AV)) (H : AH) => m_slices_DeleteFunc_int_intttthtbl K r0 s.1 s.2.1 s.2.2.1 s.2.2.2 H) (x0, x1, x5, x6) H
theorem m_slices_DeleteFunc_int_intttthtb_eq (K : AV → AH → Prop) (a : TE) (H : AH) : codeP PP CC (subC (bodyC PP 27) [1, 1, 1, 0, 1, 0]) (m_slices_DeleteFunc_int_inttttht_k K) a H = m_slices_DeleteFunc_int_intttthtb K (a 0) (a 1) (a 5) (a 6) H :=
  have h1 : codeP PP CC (subC (bodyC PP 27) [1, 1, 1, 0, 1, 0]) (m_slices_DeleteFunc_int_inttttht_k K) a H = loopP (fun (rec : KE) => codeP PP CC (subC (bodyC PP 27) [1, 1, 1, 0, 1, 0, 0]) (exP rec (m_slices_DeleteFunc_int_inttttht_k K))) a H := by kernel_rfl
  have h2 := loopP_iso (F := fun (rec : KE) => codeP PP CC (subC (bodyC PP 27) [1, 1, 1, 0, 1, 0, 0]) (exP rec (m_slices_DeleteFunc_int_inttttht_k K))) (S := (AV × AV × AV × AV)) (fun a => (a 0, a 1, a 5, a 6)) (fun (r0 : (AV × AV × AV × AV) → AH → Prop) (s : (AV × AV × AV × AV)) (H : AH) => m_slices_DeleteFunc_int_intttthtbl K r0 s.1 s.2.1 s.2.2.1 s.2.2.2 H) (fun (r0 : (AV × AV × AV × AV) → AH → Prop) (a : TE) (H : AH) => (show codeP PP CC (subC (bodyC PP 27) [1, 1, 1, 0, 1, 0, 0]) (exP (fun (a : TE) (H : AH) => r0 (a 0, a 1, a 5, a 6) H) (m_slices_DeleteFunc_int_inttttht_k K)) a H = codeP PP CC (subC (bodyC PP 27) [1, 1, 1, 0, 1, 0, 0]) (m_slices_DeleteFunc_int_intttthtb_k K r0) a H from by kernel_rfl).trans (m_slices_DeleteFunc_int_intttthtbl_eq K r0 a H)) a H
  h1.trans h2
theorem m_slices_DeleteFunc_int_inttttht_eq (K : AV → AH → Prop) (a : TE) (H : AH) : codeP PP CC (subC (bodyC PP 27) [1, 1, 1, 0, 1]) (m_slices_DeleteFunc_int_intttt_k K) a H = m_slices_DeleteFunc_int_intttthtb K (a 0) (a 1) (a 5) (a 6) H :=
  have h1 : codeP PP CC (subC (bodyC PP 27) [1, 1, 1, 0, 1]) (m_slices_DeleteFunc_int_intttt_k K) a H = codeP PP CC (subC (bodyC PP 27) [1, 1, 1, 0, 1, 0]) (m_slices_DeleteFunc_int_inttttht_k K) a H := by kernel_rfl
  h1.trans (m_slices_DeleteFunc_int_intttthtb_eq K a H)
abbrev m_slices_DeleteFunc_int_intttth_k (K : AV → AH → Prop) : KP := exP (fun (a : TE) (H : AH) => m_slices_DeleteFunc_int_intttthtb K (a 0) (a 1) (a 5) (a 6) H) (m_slices_DeleteFunc_int_intttt_k K)
def m_slices_DeleteFunc_int_intttth (K : AV → AH → Prop) (x0 x1 x5 : AV) (H : AH) : Prop :=
  outP CC H (w_int .add H x5 (.int .i64 1)) fun v1 H1 =>
  m_slices_DeleteFunc_int_intttthtb K x0 x1 x5 v1 H1
theorem m_slices_DeleteFunc_int_intttth_eq (K : AV → AH → Prop) (a : TE) (H : AH) : codeP PP CC (subC (bodyC PP 27) [1, 1, 1, 0]) (m_slices_DeleteFunc_int_intttt_k K) a H = m_slices_DeleteFunc_int_intttth K (a 0) (a 1) (a 5) H :=
  have h1 : codeP PP CC (subC (bodyC PP 27) [1, 1, 1, 0]) (m_slices_DeleteFunc_int_intttt_k K) a H = codeP PP CC (subC (bodyC PP 27) [1, 1, 1, 0, 0]) (exP (codeP PP CC (subC (bodyC PP 27) [1, 1, 1, 0, 1]) (m_slices_DeleteFunc_int_intttt_k K)) (m_slices_DeleteFunc_int_intttt_k K)) a H := by kernel_rfl
  have h2 : codeP PP CC (subC (bodyC PP 27) [1, 1, 1, 0, 0]) (exP (codeP PP CC (subC (bodyC PP 27) [1, 1, 1, 0, 1]) (m_slices_DeleteFunc_int_intttt_k K)) (m_slices_DeleteFunc_int_intttt_k K)) a H = codeP PP CC (subC (bodyC PP 27) [1, 1, 1, 0, 0]) (exP (fun (a : TE) (H : AH) => m_slices_DeleteFunc_int_intttthtb K (a 0) (a 1) (a 5) (a 6) H) (m_slices_DeleteFunc_int_intttt_k K)) a H := congrArg (fun k : KE => codeP PP CC (subC (bodyC PP 27) [1, 1, 1, 0, 0]) (exP k (m_slices_DeleteFunc_int_intttt_k K)) a H) (funext fun a => funext fun H => m_slices_DeleteFunc_int_inttttht_eq K a H)
  have h2b : codeP PP CC (subC (bodyC PP 27) [1, 1, 1, 0, 0]) (exP (fun (a : TE) (H : AH) => m_slices_DeleteFunc_int_intttthtb K (a 0) (a 1) (a 5) (a 6) H) (m_slices_DeleteFunc_int_intttt_k K)) a H = codeP PP CC (subC (bodyC PP 27) [1, 1, 1, 0, 0]) (m_slices_DeleteFunc_int_intttth_k K) a H := by kernel_rfl
  have h3 : codeP PP CC (subC (bodyC PP 27) [1, 1, 1, 0, 0]) (m_slices_DeleteFunc_int_intttth_k K) a H = m_slices_DeleteFunc_int_intttth K (a 0) (a 1) (a 5) H := by kernel_rfl
  ((h1.trans h2).trans h2b).trans h3
theorem m_slices_DeleteFunc_int_intttt_eq (K : AV → AH → Prop) (a : TE) (H : AH) : codeP PP CC (subC (bodyC PP 27) [1, 1, 1]) (m_slices_DeleteFunc_int_int_K K) a H = m_slices_DeleteFunc_int_intttth K (a 0) (a 1) (a 5) H :=
  have h1 : codeP PP CC (subC (bodyC PP 27) [1, 1, 1]) (m_slices_DeleteFunc_int_int_K K) a H = codeP PP CC (subC (bodyC PP 27) [1, 1, 1, 0]) (m_slices_DeleteFunc_int_intttt_k K) a H := by kernel_rfl
  h1.trans (m_slices_DeleteFunc_int_intttth_eq K a H)
abbrev m_slices_DeleteFunc_int_inttt_k (K : AV → AH → Prop) : KP := exP (fun (a : TE) (H : AH) => m_slices_DeleteFunc_int_intttth K (a 0) (a 1) (a 5) H) (m_slices_DeleteFunc_int_int_K K)
def m_slices_DeleteFunc_int_inttt (K : AV → AH → Prop) (x0 x1 x5 : AV) (H : AH) : Prop :=
  outP CC H (w_int .eql H x5 (.int .i64 (-1))) fun v1 H1 =>
  condP v1
  (K x0 H1)
  (m_slices_DeleteFunc_int_intttth K x0 x1 x5 H1)
theorem m_slices_DeleteFunc_int_inttt_eq (K : AV → AH → Prop) (a : TE) (H : AH) : codeP PP CC (subC (bodyC PP 27) [1, 1]) (m_slices_DeleteFunc_int_int_K K) a H = m_slices_DeleteFunc_int_inttt K (a 0) (a 1) (a 5) H :=
  have h1 : codeP PP CC (subC (bodyC PP 27) [1, 1]) (m_slices_DeleteFunc_int_int_K K) a H = codeP PP CC (subC (bodyC PP 27) [1, 1, 0]) (exP (codeP PP CC (subC (bodyC PP 27) [1, 1, 1]) (m_slices_DeleteFunc_int_int_K K)) (m_slices_DeleteFunc_int_int_K K)) a H := by kernel_rfl
  have h2 : codeP PP CC (subC (bodyC PP 27) [1, 1, 0]) (exP (codeP PP CC (subC (bodyC PP 27) [1, 1, 1]) (m_slices_DeleteFunc_int_int_K K)) (m_slices_DeleteFunc_int_int_K K)) a H = codeP PP CC (subC (bodyC PP 27) [1, 1, 0]) (exP (fun (a : TE) (H : AH) => m_slices_DeleteFunc_int_intttth K (a 0) (a 1) (a 5) H) (m_slices_DeleteFunc_int_int_K K)) a H := congrArg (fun k : KE => codeP PP CC (subC (bodyC PP 27) [1, 1, 0]) (exP k (m_slices_DeleteFunc_int_int_K K)) a H) (funext fun a => funext fun H => m_slices_DeleteFunc_int_intttt_eq K a H)
  have h2b : codeP PP CC (subC (bodyC PP 27) [1, 1, 0]) (exP (fun (a : TE) (H : AH) => m_slices_DeleteFunc_int_intttth K (a 0) (a 1) (a 5) H) (m_slices_DeleteFunc_int_int_K K)) a H = codeP PP CC (subC (bodyC PP 27) [1, 1, 0]) (m_slices_DeleteFunc_int_inttt_k K) a H := by kernel_rfl
  have h3 : codeP PP CC (subC (bodyC PP 27) [1, 1, 0]) (m_slices_DeleteFunc_int_inttt_k K) a H = m_slices_DeleteFunc_int_inttt K (a 0) (a 1) (a 5) H := by kernel_rfl
  ((h1.trans h2).trans h2b).trans h3
abbrev m_slices_DeleteFunc_int_intt_k (K : AV → AH → Prop) : KP := exP (fun (a : TE) (H : AH) => m_slices_DeleteFunc_int_inttt K (a 0) (a 1) (a 5) H) (m_slices_DeleteFunc_int_int_K K)
def m_slices_DeleteFunc_int_intt (K : AV → AH → Prop) (x0 x1 : AV) (H : AH) : Prop :=
  outP CC H (some (.enter 55 [x0, x1])) fun v1 H1 =>
  m_slices_DeleteFunc_int_inttt K x0 x1 v1 H1
theorem m_slices_DeleteFunc_int_intt_eq (K : AV → AH → Prop) (a : TE) (H : AH) : codeP PP CC (subC (bodyC PP 27) [1]) (m_slices_DeleteFunc_int_int_K K) a H = m_slices_DeleteFunc_int_intt K (a 0) (a 1) H :=
  have h1 : codeP PP CC (subC (bodyC PP 27) [1]) (m_slices_DeleteFunc_int_int_K K) a H = codeP PP CC (subC (bodyC PP 27) [1, 0]) (exP (codeP PP CC (subC (bodyC PP 27) [1, 1]) (m_slices_DeleteFunc_int_int_K K)) (m_slices_DeleteFunc_int_int_K K)) a H := by kernel_rfl
  have h2 : codeP PP CC (subC (bodyC PP 27) [1, 0]) (exP (codeP PP CC (subC (bodyC PP 27) [1, 1]) (m_slices_DeleteFunc_int_int_K K)) (m_slices_DeleteFunc_int_int_K K)) a H = codeP PP CC (subC (bodyC PP 27) [1, 0]) (exP (fun (a : TE) (H : AH) => m_slices_DeleteFunc_int_inttt K (a 0) (a 1) (a 5) H) (m_slices_DeleteFunc_int_int_K K)) a H := congrArg (fun k : KE => codeP PP CC (subC (bodyC PP 27) [1, 0]) (exP k (m_slices_DeleteFunc_int_int_K K)) a H) (funext fun a => funext fun H => m_slices_DeleteFunc_int_inttt_eq K a H)
  have h2b : codeP PP CC (subC (bodyC PP 27) [1, 0]) (exP (fun (a : TE) (H : AH) => m_slices_DeleteFunc_int_inttt K (a 0) (a 1) (a 5) H) (m_slices_DeleteFunc_int_int_K K)) a H = codeP PP CC (subC (bodyC PP 27) [1, 0]) (m_slices_DeleteFunc_int_intt_k K) a H := by kernel_rfl
  have h3 : codeP PP CC (subC (bodyC PP 27) [1, 0]) (m_slices_DeleteFunc_int_intt_k K) a H = m_slices_DeleteFunc_int_intt K (a 0) (a 1) H := by kernel_rfl
  ((h1.trans h2).trans h2b).trans h3
abbrev m_slices_DeleteFunc_int_int_k (K : AV → AH → Prop) : KP := exP (fun (a : TE) (H : AH) => m_slices_DeleteFunc_int_intt K (a 0) (a 1) H) (m_slices_DeleteFunc_int_int_K K)
def m_slices_DeleteFunc_int_int (K : AV → AH → Prop) (x0 x1 : AV) (H : AH) : Prop :=
  m_slices_DeleteFunc_int_intt K x0 x1 H
theorem m_slices_DeleteFunc_int_int_eq (K : AV → AH → Prop) (a : TE) (H : AH) : codeP PP CC (subC (bodyC PP 27) []) (m_slices_DeleteFunc_int_int_K K) a H = m_slices_DeleteFunc_int_int K (a 0) (a 1) H :=
  have h1 : codeP PP CC (subC (bodyC PP 27) []) (m_slices_DeleteFunc_int_int_K K) a H = codeP PP CC (subC (bodyC PP 27) [0]) (exP (codeP PP CC (subC (bodyC PP 27) [1]) (m_slices_DeleteFunc_int_int_K K)) (m_slices_DeleteFunc_int_int_K K)) a H := by kernel_rfl
  have h2 : codeP PP CC (subC (bodyC PP 27) [0]) (exP (codeP PP CC (subC (bodyC PP 27) [1]) (m_slices_DeleteFunc_int_int_K K)) (m_slices_DeleteFunc_int_int_K K)) a H = codeP PP CC (subC (bodyC PP 27) [0]) (exP (fun (a : TE) (H : AH) => m_slices_DeleteFunc_int_intt K (a 0) (a 1) H) (m_slices_DeleteFunc_int_int_K K)) a H := congrArg (fun k : KE => codeP PP CC (subC (bodyC PP 27) [0]) (exP k (m_slices_DeleteFunc_int_int_K K)) a H) (funext fun a => funext fun H => m_slices_DeleteFunc_int_intt_eq K a H)
  have h2b : codeP PP CC (subC (bodyC PP 27) [0]) (exP (fun (a : TE) (H : AH) => m_slices_DeleteFunc_int_intt K (a 0) (a 1) H) (m_slices_DeleteFunc_int_int_K K)) a H = codeP PP CC (subC (bodyC PP 27) [0]) (m_slices_DeleteFunc_int_int_k K) a H := by kernel_rfl
  have h3 : codeP PP CC (subC (bodyC PP 27) [0]) (m_slices_DeleteFunc_int_int_k K) a H = m_slices_DeleteFunc_int_int K (a 0) (a 1) H := by kernel_rfl
  ((h1.trans h2).trans h2b).trans h3
theorem m_slices_DeleteFunc_int_int_ok (x0 x1 : AV) (H : AH) (K : AV → AH → Prop) (h : m_slices_DeleteFunc_int_int K x0 x1 H) : CC.call 27 [x0, x1] H K :=
  have h1 : funP PP CC 27 [x0, x1] H K = codeP PP CC (subC (bodyC PP 27) []) (m_slices_DeleteFunc_int_int_K K) (argE [x0, x1]) H := by kernel_rfl
  have h2 : m_slices_DeleteFunc_int_int K (argE [x0, x1] 0) (argE [x0, x1] 1) H = m_slices_DeleteFunc_int_int K x0 x1 H := by kernel_rfl
  funP_ok (P := PP) (by kernel_rfl) (by kernel_rfl) ((h1.trans ((m_slices_DeleteFunc_int_int_eq K (argE [x0, x1]) H).trans h2)).mpr h)

/-! 55: slices.IndexFunc[[]int,int] -/
abbrev m_slices_IndexFunc_int_int_K (K : AV → AH → Prop) : KP := finP PP (resC PP 55) K
abbrev m_slices_IndexFunc_int_intt_k (K : AV → AH → Prop) : KP := exP (codeP PP CC (subC (bodyC PP 55) [1, 1]) (m_slices_IndexFunc_int_int_K K)) (m_slices_IndexFunc_int_int_K K)
abbrev m_slices_IndexFunc_int_inttht_k (K : AV → AH → Prop) : KP := blockP 0 (m_slices_IndexFunc_int_intt_k K)
abbrev m_slices_IndexFunc_int_intthtb_k (K : AV → AH → Prop) (r0 : (AV × AV × AV × AV) → AH → Prop) : KP := exP (fun (a : TE) (H : AH) => r0 (a 0, a 1, a 7, a 8) H) (m_slices_IndexFunc_int_inttht_k K)
def m_slices_IndexFunc_int_intthtbl (K : AV → AH → Prop) (r0 : (AV × AV × AV × AV) → AH → Prop) (x0 x1 x7 x8 : AV) (H : AH) : Prop :=
  outP CC H (w_int .lss H x8 x7) fun v1 H1 =>
  condP v1
  (outP CC H1 (w_indexAddr (.sl 1) H1 x0 x8) fun v2 H2 =>
  outP CC H2 (w_load none H2 v2) fun v3 H3 =>
  outP CC H3 (callV [v3] x1) fun v4 H4 =>
  condP v4
  (K x8 H4)
  (outP CC H4 (w_int .add H4 x8 (.int .i64 1)) fun v5 H5 =>
  r0 (x0, x1, x7, v5) H5))
  (K (.int .i64 (-1)) H1)
theorem m_slices_IndexFunc_int_intthtbl_eq (K : AV → AH → Prop) (r0 : (AV × AV × AV × AV) → AH → Prop) (a : TE) (H : AH) : codeP PP CC (subC (bodyC PP 55) [1, 0, 1, 0, 0]) (m_slices_IndexFunc_int_intthtb_k K r0) a H = m_slices_IndexFunc_int_intthtbl K r0 (a 0) (a 1) (a 7) (a 8) H :=
  by kernel_rfl
def m_slices_IndexFunc_int_intthtb (K : AV → AH → Prop) (x0 x1 x7 x8 : AV) (H : AH) : Prop :=
  loopP (fun (r0 : (AV × AV × AV × AV) → AH → Prop) (s : (AV × AV × AV × AV)) (H : AH) => m_slices_IndexFunc_int_intthtbl K r0 s.1 s.2.1 s.2.2.1 s.2.2.2 H) (x0, x1, x7, x8) H
theorem m_slices_IndexFunc_int_intthtb_eq (K : AV → AH → Prop) (a : TE) (H : AH) : codeP PP CC (subC (bodyC PP 55) [1, 0, 1, 0]) (m_slices_IndexFunc_int_inttht_k K) a H = m_slices_IndexFunc_int_intthtb K (a 0) (a 1) (a 7) (a 8) H :=
  have h1 : codeP PP CC (subC (bodyC PP 55) [1, 0, 1, 0]) (m_slices_IndexFunc_int_inttht_k K) a H = loopP (fun (rec : KE) => codeP PP CC (subC (bodyC PP 55) [1, 0, 1, 0, 0]) (exP rec (m_slices_IndexFunc_int_inttht_k K))) a H := by kernel_rfl
  have h2 := loopP_iso (F := fun (rec : KE) => codeP PP CC (subC (bodyC PP 55) [1, 0, 1, 0, 0]) (exP rec (m_slices_IndexFunc_int_inttht_k K))) (S := (AV × AV × AV × AV)) (fun a => (a 0, a 1, a 7, a 8)) (fun (r0 : (AV × AV × AV × AV) → AH → Prop) (s : (AV × AV × AV × AV)) (H : AH) => m_slices_IndexFunc_int_intthtbl K r0 s.1 s.2.1 s.2.2.1 s.2.2.2 H) (fun (r0 : (AV × AV × AV × AV) → AH → Prop) (a : TE) (H : AH) => (show codeP PP CC (subC (bodyC PP 55) [1, 0, 1, 0, 0]) (exP (fun (a : TE) (H : AH) => r0 (a 0, a 1, a 7, a 8) H) (m_slices_IndexFunc_int_inttht_k K)) a H = codeP PP CC (subC (bodyC PP 55) [1, 0, 1, 0, 0]) (m_slices_IndexFunc_int_intthtb_k K r0) a H from by kernel_rfl).trans (m_slices_IndexFunc_int_intthtbl_eq K r0 a H)) a H
  h1.trans h2
theorem m_slices_IndexFunc_int_inttht_eq (K : AV → AH → Prop) (a : TE) (H : AH) : codeP PP CC (subC (bodyC PP 55) [1, 0, 1]) (m_slices_IndexFunc_int_intt_k K) a H = m_slices_IndexFunc_int_intthtb K (a 0) (a 1) (a 7) (a 8) H :=
  have h1 : codeP PP CC (subC (bodyC PP 55) [1, 0, 1]) (m_slices_IndexFunc_int_intt_k K) a H = codeP PP CC (subC (bodyC PP 55) [1, 0, 1, 0]) (m_slices_IndexFunc_int_inttht_k K) a H := by kernel_rfl
  h1.trans (m_slices_IndexFunc_int_intthtb_eq K a H)
abbrev m_slices_IndexFunc_int_intth_k (K : AV → AH → Prop) : KP := exP (fun (a : TE) (H : AH) => m_slices_IndexFunc_int_intthtb K (a 0) (a 1) (a 7) (a 8) H) (m_slices_IndexFunc_int_intt_k K)
def m_slices_IndexFunc_int_intth (K : AV → AH → Prop) (x0 x1 : AV) (H : AH) : Prop :=
  outP CC H (w_len PP 31 H x0) fun v1 H1 =>
  m_slices_IndexFunc_int_intthtb K x0 x1 v1 (.int .i64 0) H1
theorem m_slices_IndexFunc_int_intth_eq (K : AV → AH → Prop) (a : TE) (H : AH) : codeP PP CC (subC (bodyC PP 55) [1, 0]) (m_slices_IndexFunc_int_intt_k K) a H = m_slices_IndexFunc_int_intth K (a 0) (a 1) H :=
  have h1 : codeP PP CC (subC (bodyC PP 55) [1, 0]) (m_slices_IndexFunc_int_intt_k K) a H = codeP PP CC (subC (bodyC PP 55) [1, 0, 0]) (exP (codeP PP CC (subC (bodyC PP 55) [1, 0, 1]) (m_slices_IndexFunc_int_intt_k K)) (m_slices_IndexFunc_int_intt_k K)) a H := by kernel_rfl
  have h2 : codeP PP CC (subC (bodyC PP 55) [1, 0, 0]) (exP (codeP PP CC (subC (bodyC PP 55) [1, 0, 1]) (m_slices_IndexFunc_int_intt_k K)) (m_slices_IndexFunc_int_intt_k K)) a H = codeP PP CC (subC (bodyC PP 55) [1, 0, 0]) (exP (fun (a : TE) (H : AH) => m_slices_IndexFunc_int_intthtb K (a 0) (a 1) (a 7) (a 8) H) (m_slices_IndexFunc_int_intt_k K)) a H := congrArg (fun k : KE => codeP PP CC (subC (bodyC PP 55) [1, 0, 0]) (exP k (m_slices_IndexFunc_int_intt_k K)) a H) (funext fun a => funext fun H => m_slices_IndexFunc_int_inttht_eq K a H)
  have h2b : codeP PP CC (subC (bodyC PP 55) [1, 0, 0]) (exP (fun (a : TE) (H : AH) => m_slices_IndexFunc_int_intthtb K (a 0) (a 1) (a 7) (a 8) H) (m_slices_IndexFunc_int_intt_k K)) a H = codeP PP CC (subC (bodyC PP 55) [1, 0, 0]) (m_slices_IndexFunc_int_intth_k K) a H := by kernel_rfl
  have h3 : codeP PP CC (subC (bodyC PP 55) [1, 0, 0]) (m_slices_IndexFunc_int_intth_k K) a H = m_slices_IndexFunc_int_intth K (a 0) (a 1) H := by kernel_rfl
  ((h1.trans h2).trans h2b).trans h3
theorem m_slices_IndexFunc_int_intt_eq (K : AV → AH → Prop) (a : TE) (H : AH) : codeP PP CC (subC (bodyC PP 55) [1]) (m_slices_IndexFunc_int_int_K K) a H = m_slices_IndexFunc_int_intth K (a 0) (a 1) H :=
  have h1 : codeP PP CC (subC (bodyC PP 55) [1]) (m_slices_IndexFunc_int_int_K K) a H = codeP PP CC (subC (bodyC PP 55) [1, 0]) (m_slices_IndexFunc_int_intt_k K) a H := by kernel_rfl
  h1.trans (m_slices_IndexFunc_int_intth_eq K a H)
abbrev m_slices_IndexFunc_int_int_k (K : AV → AH → Prop) : KP := exP (fun (a : TE) (H : AH) => m_slices_IndexFunc_int_intth K (a 0) (a 1) H) (m_slices_IndexFunc_int_int_K K)
def m_slices_IndexFunc_int_int (K : AV → AH → Prop) (x0 x1 : AV) (H : AH) : Prop :=
  m_slices_IndexFunc_int_intth K x0 x1 H
theorem m_slices_IndexFunc_int_int_eq (K : AV → AH → Prop) (a : TE) (H : AH) : codeP PP CC (subC (bodyC PP 55) []) (m_slices_IndexFunc_int_int_K K) a H = m_slices_IndexFunc_int_int K (a 0) (a 1) H :=
  have h1 : codeP PP CC (subC (bodyC PP 55) []) (m_slices_IndexFunc_int_int_K K) a H = codeP PP CC (subC (bodyC PP 55) [0]) (exP (codeP PP CC (subC (bodyC PP 55) [1]) (m_slices_IndexFunc_int_int_K K)) (m_slices_IndexFunc_int_int_K K)) a H := by kernel_rfl
  have h2 : codeP PP CC (subC (bodyC PP 55) [0]) (exP (codeP PP CC (subC (bodyC PP 55) [1]) (m_slices_IndexFunc_int_int_K K)) (m_slices_IndexFunc_int_int_K K)) a H = codeP PP CC (subC (bodyC PP 55) [0]) (exP (fun (a : TE) (H : AH) => m_slices_IndexFunc_int_intth K (a 0) (a 1) H) (m_slices_IndexFunc_int_int_K K)) a H := congrArg (fun k : KE => codeP PP CC (subC (bodyC PP 55) [0]) (exP k (m_slices_IndexFunc_int_int_K K)) a H) (funext fun a => funext fun H => m_slices_IndexFunc_int_intt_eq K a H)
  have h2b : codeP PP CC (subC (bodyC PP 55) [0]) (exP (fun (a : TE) (H : AH) => m_slices_IndexFunc_int_intth K (a 0) (a 1) H) (m_slices_IndexFunc_int_int_K K)) a H = codeP PP CC (subC (bodyC PP 55) [0]) (m_slices_IndexFunc_int_int_k K) a H := by kernel_rfl
  have h3 : codeP PP CC (subC (bodyC PP 55) [0]) (m_slices_IndexFunc_int_int_k K) a H = m_slices_IndexFunc_int_int K (a 0) (a 1) H := by kernel_rfl
  ((h1.trans h2).trans h2b).trans h3
theorem m_slices_IndexFunc_int_int_ok (x0 x1 : AV) (H : AH) (K : AV → AH → Prop) (h : m_slices_IndexFunc_int_int K x0 x1 H) : CC.call 55 [x0, x1] H K :=
  have h1 : funP PP CC 55 [x0, x1] H K = codeP PP CC (subC (bodyC PP 55) []) (m_slices_IndexFunc_int_int_K K) (argE [x0, x1]) H := by kernel_rfl
  have h2 : m_slices_IndexFunc_int_int K (argE [x0, x1] 0) (argE [x0, x1] 1) H = m_slices_IndexFunc_int_int K x0 x1 H := by kernel_rfl
  funP_ok (P := PP) (by kernel_rfl) (by kernel_rfl) ((h1.trans ((m_slices_IndexFunc_int_int_eq K (argE [x0, x1]) H).trans h2)).mpr h)

/-! 28: (*fieldfare/pool.Pool).Owners$1 -/
abbrev m_pool_Pool_Owners_1_K (K : AV → AH → Prop) : KP := finP PP (resC PP 28) K
def m_pool_Pool_Owners_1 (K : AV → AH → Prop) (x0 x1 : AV) (H : AH) : Prop :=
  outP CC H (w_load none H x1) fun v1 H1 =>
  outP CC H1 (w_nil H1 v1) fun v2 H2 =>
  outP CC H2 (w_fieldAddr 1 H2 v2) fun v3 H3 =>
  outP CC H3 (w_load none H3 v3) fun v4 H4 =>
  outP CC H4 (w_lookup PP 3 31 false H4 v4 x0) fun v5 H5 =>
  outP CC H5 (w_len PP 31 H5 v5) fun v6 H6 =>
  outP CC H6 (w_int .eql H6 v6 (.int .i64 0)) fun v7 H7 =>
  K v7 H7
theorem m_pool_Pool_Owners_1_eq (K : AV → AH → Prop) (a : TE) (H : AH) : codeP PP CC (subC (bodyC PP 28) []) (m_pool_Pool_Owners_1_K K) a H = m_pool_Pool_Owners_1 K (a 0) (a 1) H :=
  by kernel_rfl
theorem m_pool_Pool_Owners_1_ok (x0 x1 : AV) (H : AH) (K : AV → AH → Prop) (h : m_pool_Pool_Owners_1 K x0 x1 H) : CC.call 28 [x0, x1] H K :=
  have h1 : funP PP CC 28 [x0, x1] H K = codeP PP CC (subC (bodyC PP 28) []) (m_pool_Pool_Owners_1_K K) (argE [x0, x1]) H := by kernel_rfl
  have h2 : m_pool_Pool_Owners_1 K (argE [x0, x1] 0) (argE [x0, x1] 1) H = m_pool_Pool_Owners_1 K x0 x1 H := by kernel_rfl
  funP_ok (P := PP) (by kernel_rfl) (by kernel_rfl) ((h1.trans ((m_pool_Pool_Owners_1_eq K (argE [x0, x1]) H).trans h2)).mpr h)

end
end Go.Ab
