/- What functions do, said as what the evaluator does. Printed by a program. -/
import Derived.Test.YtjpjmeidpjjgdaaGreatDoorBeg
import Derived.Test.YtjpjmeidpjjgdaaGreatDoorEv3
namespace Go.Ab
noncomputable section
open Go.Proofs
set_option maxRecDepth 100000



/-! 3: fieldfare/fieldfarelaw7.PoolAll -/
abbrev m_fieldfarelaw7_PoolAll_K (K : AV → AH → Prop) : KP := finP PP (resC PP 3) K
abbrev m_fieldfarelaw7_PoolAlltttt_k (K : AV → AH → Prop) : KP := exP (codeP PP CC (subC (bodyC PP 3) [1, 1, 1, 1, 1]) (m_fieldfarelaw7_PoolAll_K K)) (m_fieldfarelaw7_PoolAll_K K)
abbrev m_fieldfarelaw7_PoolAllttttht_k (K : AV → AH → Prop) : KP := blockP 0 (m_fieldfarelaw7_PoolAlltttt_k K)
abbrev m_fieldfarelaw7_PoolAlltttthtb_k (K : AV → AH → Prop) (r0 : (AV × AV × AV × AV) → AH → Prop) : KP := exP (fun (a : TE) (H : AH) => r0 (a 1, a 6, a 7, a 8) H) (m_fieldfarelaw7_PoolAllttttht_k K)
def m_fieldfarelaw7_PoolAlltttthtbltt (_K : AV → AH → Prop) (r0 : (AV × AV × AV × AV) → AH → Prop) (x1 x6 x7 x8 : AV) (H : AH) : Prop :=
  outP CC H (w_int .add H x8 (.int .i64 1)) fun v1 H1 =>
  r0 (x1, x6, x7, v1) H1
theorem m_fieldfarelaw7_PoolAlltttthtbltt_eq (K : AV → AH → Prop) (r0 : (AV × AV × AV × AV) → AH → Prop) (a : TE) (H : AH) : codeP PP CC (subC (bodyC PP 3) [1, 1, 1, 1, 0, 1, 0, 0, 1, 1]) (m_fieldfarelaw7_PoolAlltttthtb_k K r0) a H = m_fieldfarelaw7_PoolAlltttthtbltt K r0 (a 1) (a 6) (a 7) (a 8) H :=
  by kernel_rfl
abbrev m_fieldfarelaw7_PoolAlltttthtblt_k (K : AV → AH → Prop) (r0 : (AV × AV × AV × AV) → AH → Prop) : KP := exP (fun (a : TE) (H : AH) => m_fieldfarelaw7_PoolAlltttthtbltt K r0 (a 1) (a 6) (a 7) (a 8) H) (m_fieldfarelaw7_PoolAlltttthtb_k K r0)
abbrev m_fieldfarelaw7_PoolAlltttthtblth_k (K : AV → AH → Prop) (r0 : (AV × AV × AV × AV) → AH → Prop) : KP := blockP 1 (m_fieldfarelaw7_PoolAlltttthtblt_k K r0)
abbrev m_fieldfarelaw7_PoolAlltttthtblthbtttttt_k (K : AV → AH → Prop) (r0 : (AV × AV × AV × AV) → AH → Prop) : KP := blockP 2 (m_fieldfarelaw7_PoolAlltttthtblth_k K r0)
abbrev m_fieldfarelaw7_PoolAlltttthtblthbttttttb_k (K : AV → AH → Prop) (r0 : (AV × AV × AV × AV) → AH → Prop) (r1 : (AV × AV × AV × AV × AV × AV × AV × AV) → AH → Prop) : KP := exP (fun (a : TE) (H : AH) => r1 (a 1, a 6, a 7, a 8, a 10, a 11, a 71, a 72) H) (m_fieldfarelaw7_PoolAlltttthtblthbtttttt_k K r0)
def m_fieldfarelaw7_PoolAlltttthtblthbttttttbl (K : AV → AH → Prop) (r0 : (AV × AV × AV × AV) → AH → Prop) (r1 : (AV × AV × AV × AV × AV × AV × AV × AV) → AH → Prop) (x1 x6 x7 x8 x10 x11 x71 x72 : AV) (H : AH) : Prop :=
  outP CC H (w_int .lss H x72 x71) fun v1 H1 =>
  condP v1
  (outP CC H1 (w_indexAddr (.sl 1) H1 x10 x72) fun v2 H2 =>
  outP CC H2 (w_load none H2 v2) fun v3 H3 =>
  outP CC H3 (w_indexAddr (.sl 1) H3 x11 x72) fun v4 H4 =>
  outP CC H4 (w_load none H4 v4) fun v5 H5 =>
  outP CC H5 (w_int .neq H5 v3 v5) fun v6 H6 =>
  condP v6
  (K (.bool false) H6)
  (outP CC H6 (w_int .add H6 x72 (.int .i64 1)) fun v7 H7 =>
  r1 (x1, x6, x7, x8, x10, x11, x71, v7) H7))
  (m_fieldfarelaw7_PoolAlltttthtbltt K r0 x1 x6 x7 x8 H1)
theorem m_fieldfarelaw7_PoolAlltttthtblthbttttttbl_eq (K : AV → AH → Prop) (r0 : (AV × AV × AV × AV) → AH → Prop) (r1 : (AV × AV × AV × AV × AV × AV × AV × AV) → AH → Prop) (a : TE) (H : AH) : codeP PP CC (subC (bodyC PP 3) [1, 1, 1, 1, 0, 1, 0, 0, 1, 0, 0, 1, 1, 1, 1, 1, 1, 0, 0]) (m_fieldfarelaw7_PoolAlltttthtblthbttttttb_k K r0 r1) a H = m_fieldfarelaw7_PoolAlltttthtblthbttttttbl K r0 r1 (a 1) (a 6) (a 7) (a 8) (a 10) (a 11) (a 71) (a 72) H :=
  by kernel_rfl
def m_fieldfarelaw7_PoolAlltttthtblthbttttttb (K : AV → AH → Prop) (r0 : (AV × AV × AV × AV) → AH → Prop) (x1 x6 x7 x8 x10 x11 x71 x72 : AV) (H : AH) : Prop :=
  loopP (fun (r1 : (AV × AV × AV × AV × AV × AV × AV × AV) → AH → Prop) (s : (AV × AV × AV × AV × AV × AV × AV × AV)) (H : AH) => m_fieldfarelaw7_PoolAlltttthtblthbttttttbl K r0 r1 s.1 s.2.1 s.2.2.1 s.2.2.2.1 s.2.2.2.2.1 s.2.2.2.2.2.1 s.2.2.2.2.2.2.1 s.2.2.2.2.2.2.2 H) (x1, x6, x7, x8, x10, x11, x71, x72) H
theorem m_fieldfarelaw7_PoolAlltttthtblthbttttttb_eq (K : AV → AH → Prop) (r0 : (AV × AV × AV × AV) → AH → Prop) (a : TE) (H : AH) : codeP PP CC (subC (bodyC PP 3) [1, 1, 1, 1, 0, 1, 0, 0, 1, 0, 0, 1, 1, 1, 1, 1, 1, 0]) (m_fieldfarelaw7_PoolAlltttthtblthbtttttt_k K r0) a H = m_fieldfarelaw7_PoolAlltttthtblthbttttttb K r0 (a 1) (a 6) (a 7) (a 8) (a 10) (a 11) (a 71) (a 72) H :=
  have h1 : codeP PP CC (subC (bodyC PP 3) [1, 1, 1, 1, 0, 1, 0, 0, 1, 0, 0, 1, 1, 1, 1, 1, 1, 0]) (m_fieldfarelaw7_PoolAlltttthtblthbtttttt_k K r0) a H = loopP (fun (rec : KE) => codeP PP CC (subC (bodyC PP 3) [1, 1, 1, 1, 0, 1, 0, 0, 1, 0, 0, 1, 1, 1, 1, 1, 1, 0, 0]) (exP rec (m_fieldfarelaw7_PoolAlltttthtblthbtttttt_k K r0))) a H := by kernel_rfl
  have h2 := loopP_iso (F := fun (rec : KE) => codeP PP CC (subC (bodyC PP 3) [1, 1, 1, 1, 0, 1, 0, 0, 1, 0, 0, 1, 1, 1, 1, 1, 1, 0, 0]) (exP rec (m_fieldfarelaw7_PoolAlltttthtblthbtttttt_k K r0))) (S := (AV × AV × AV × AV × AV × AV × AV × AV)) (fun a => (a 1, a 6, a 7, a 8, a 10, a 11, a 71, a 72)) (fun (r1 : (AV × AV × AV × AV × AV × AV × AV × AV) → AH → Prop) (s : (AV × AV × AV × AV × AV × AV × AV × AV)) (H : AH) => m_fieldfarelaw7_PoolAlltttthtblthbttttttbl K r0 r1 s.1 s.2.1 s.2.2.1 s.2.2.2.1 s.2.2.2.2.1 s.2.2.2.2.2.1 s.2.2.2.2.2.2.1 s.2.2.2.2.2.2.2 H) (fun (r1 : (AV × AV × AV × AV × AV × AV × AV × AV) → AH → Prop) (a : TE) (H : AH) => (show codeP PP CC (subC (bodyC PP 3) [1, 1, 1, 1, 0, 1, 0, 0, 1, 0, 0, 1, 1, 1, 1, 1, 1, 0, 0]) (exP (fun (a : TE) (H : AH) => r1 (a 1, a 6, a 7, a 8, a 10, a 11, a 71, a 72) H) (m_fieldfarelaw7_PoolAlltttthtblthbtttttt_k K r0)) a H = codeP PP CC (subC (bodyC PP 3) [1, 1, 1, 1, 0, 1, 0, 0, 1, 0, 0, 1, 1, 1, 1, 1, 1, 0, 0]) (m_fieldfarelaw7_PoolAlltttthtblthbttttttb_k K r0 r1) a H from by kernel_rfl).trans (m_fieldfarelaw7_PoolAlltttthtblthbttttttbl_eq K r0 r1 a H)) a H
  h1.trans h2
theorem m_fieldfarelaw7_PoolAlltttthtblthbtttttt_eq (K : AV → AH → Prop) (r0 : (AV × AV × AV × AV) → AH → Prop) (a : TE) (H : AH) : codeP PP CC (subC (bodyC PP 3) [1, 1, 1, 1, 0, 1, 0, 0, 1, 0, 0, 1, 1, 1, 1, 1, 1]) (m_fieldfarelaw7_PoolAlltttthtblth_k K r0) a H = m_fieldfarelaw7_PoolAlltttthtblthbttttttb K r0 (a 1) (a 6) (a 7) (a 8) (a 10) (a 11) (a 71) (a 72) H :=
  have h1 : codeP PP CC (subC (bodyC PP 3) [1, 1, 1, 1, 0, 1, 0, 0, 1, 0, 0, 1, 1, 1, 1, 1, 1]) (m_fieldfarelaw7_PoolAlltttthtblth_k K r0) a H = codeP PP CC (subC (bodyC PP 3) [1, 1, 1, 1, 0, 1, 0, 0, 1, 0, 0, 1, 1, 1, 1, 1, 1, 0]) (m_fieldfarelaw7_PoolAlltttthtblthbtttttt_k K r0) a H := by kernel_rfl
  h1.trans (m_fieldfarelaw7_PoolAlltttthtblthbttttttb_eq K r0 a H)
abbrev m_fieldfarelaw7_PoolAlltttthtblthbttttt_k (K : AV → AH → Prop) (r0 : (AV × AV × AV × AV) → AH → Prop) : KP := exP (fun (a : TE) (H : AH) => m_fieldfarelaw7_PoolAlltttthtblthbttttttb K r0 (a 1) (a 6) (a 7) (a 8) (a 10) (a 11) (a 71) (a 72) H) (m_fieldfarelaw7_PoolAlltttthtblth_k K r0)
def m_fieldfarelaw7_PoolAlltttthtblthbttttt (K : AV → AH → Prop) (r0 : (AV × AV × AV × AV) → AH → Prop) (x1 x6 x7 x8 x10 x11 : AV) (H : AH) : Prop :=
  outP CC H (w_len PP 33 H x10) fun v1 H1 =>
  m_fieldfarelaw7_PoolAlltttthtblthbttttttb K r0 x1 x6 x7 x8 x10 x11 v1 (.int .i64 0) H1
theorem m_fieldfarelaw7_PoolAlltttthtblthbttttt_eq (K : AV → AH → Prop) (r0 : (AV × AV × AV × AV) → AH → Prop) (a : TE) (H : AH) : codeP PP CC (subC (bodyC PP 3) [1, 1, 1, 1, 0, 1, 0, 0, 1, 0, 0, 1, 1, 1, 1, 1]) (m_fieldfarelaw7_PoolAlltttthtblth_k K r0) a H = m_fieldfarelaw7_PoolAlltttthtblthbttttt K r0 (a 1) (a 6) (a 7) (a 8) (a 10) (a 11) H :=
  have h1 : codeP PP CC (subC (bodyC PP 3) [1, 1, 1, 1, 0, 1, 0, 0, 1, 0, 0, 1, 1, 1, 1, 1]) (m_fieldfarelaw7_PoolAlltttthtblth_k K r0) a H = codeP PP CC (subC (bodyC PP 3) [1, 1, 1, 1, 0, 1, 0, 0, 1, 0, 0, 1, 1, 1, 1, 1, 0]) (exP (codeP PP CC (subC (bodyC PP 3) [1, 1, 1, 1, 0, 1, 0, 0, 1, 0, 0, 1, 1, 1, 1, 1, 1]) (m_fieldfarelaw7_PoolAlltttthtblth_k K r0)) (m_fieldfarelaw7_PoolAlltttthtblth_k K r0)) a H := by kernel_rfl
  have h2 : codeP PP CC (subC (bodyC PP 3) [1, 1, 1, 1, 0, 1, 0, 0, 1, 0, 0, 1, 1, 1, 1, 1, 0]) (exP (codeP PP CC (subC (bodyC PP 3) [1, 1, 1, 1, 0, 1, 0, 0, 1, 0, 0, 1, 1, 1, 1, 1, 1]) (m_fieldfarelaw7_PoolAlltttthtblth_k K r0)) (m_fieldfarelaw7_PoolAlltttthtblth_k K r0)) a H = codeP PP CC (subC (bodyC PP 3) [1, 1, 1, 1, 0, 1, 0, 0, 1, 0, 0, 1, 1, 1, 1, 1, 0]) (exP (fun (a : TE) (H : AH) => m_fieldfarelaw7_PoolAlltttthtblthbttttttb K r0 (a 1) (a 6) (a 7) (a 8) (a 10) (a 11) (a 71) (a 72) H) (m_fieldfarelaw7_PoolAlltttthtblth_k K r0)) a H := congrArg (fun k : KE => codeP PP CC (subC (bodyC PP 3) [1, 1, 1, 1, 0, 1, 0, 0, 1, 0, 0, 1, 1, 1, 1, 1, 0]) (exP k (m_fieldfarelaw7_PoolAlltttthtblth_k K r0)) a H) (funext fun a => funext fun H => m_fieldfarelaw7_PoolAlltttthtblthbtttttt_eq K r0 a H)
  have h2b : codeP PP CC (subC (bodyC PP 3) [1, 1, 1, 1, 0, 1, 0, 0, 1, 0, 0, 1, 1, 1, 1, 1, 0]) (exP (fun (a : TE) (H : AH) => m_fieldfarelaw7_PoolAlltttthtblthbttttttb K r0 (a 1) (a 6) (a 7) (a 8) (a 10) (a 11) (a 71) (a 72) H) (m_fieldfarelaw7_PoolAlltttthtblth_k K r0)) a H = codeP PP CC (subC (bodyC PP 3) [1, 1, 1, 1, 0, 1, 0, 0, 1, 0, 0, 1, 1, 1, 1, 1, 0]) (m_fieldfarelaw7_PoolAlltttthtblthbttttt_k K r0) a H := by kernel_rfl
  have h3 : codeP PP CC (subC (bodyC PP 3) [1, 1, 1, 1, 0, 1, 0, 0, 1, 0, 0, 1, 1, 1, 1, 1, 0]) (m_fieldfarelaw7_PoolAlltttthtblthbttttt_k K r0) a H = m_fieldfarelaw7_PoolAlltttthtblthbttttt K r0 (a 1) (a 6) (a 7) (a 8) (a 10) (a 11) H := by kernel_rfl
  ((h1.trans h2).trans h2b).trans h3
abbrev m_fieldfarelaw7_PoolAlltttthtblthbtttt_k (K : AV → AH → Prop) (r0 : (AV × AV × AV × AV) → AH → Prop) : KP := exP (fun (a : TE) (H : AH) => m_fieldfarelaw7_PoolAlltttthtblthbttttt K r0 (a 1) (a 6) (a 7) (a 8) (a 10) (a 11) H) (m_fieldfarelaw7_PoolAlltttthtblth_k K r0)
def m_fieldfarelaw7_PoolAlltttthtblthbtttt (K : AV → AH → Prop) (r0 : (AV × AV × AV × AV) → AH → Prop) (x1 x6 x7 x8 x10 x11 : AV) (H : AH) : Prop :=
  outP CC H (w_len PP 33 H x10) fun v1 H1 =>
  outP CC H1 (w_len PP 33 H1 x11) fun v2 H2 =>
  outP CC H2 (w_int .neq H2 v1 v2) fun v3 H3 =>
  condP v3
  (K (.bool false) H3)
  (m_fieldfarelaw7_PoolAlltttthtblthbttttt K r0 x1 x6 x7 x8 x10 x11 H3)
theorem m_fieldfarelaw7_PoolAlltttthtblthbtttt_eq (K : AV → AH → Prop) (r0 : (AV × AV × AV × AV) → AH → Prop) (a : TE) (H : AH) : codeP PP CC (subC (bodyC PP 3) [1, 1, 1, 1, 0, 1, 0, 0, 1, 0, 0, 1, 1, 1, 1]) (m_fieldfarelaw7_PoolAlltttthtblth_k K r0) a H = m_fieldfarelaw7_PoolAlltttthtblthbtttt K r0 (a 1) (a 6) (a 7) (a 8) (a 10) (a 11) H :=
  have h1 : codeP PP CC (subC (bodyC PP 3) [1, 1, 1, 1, 0, 1, 0, 0, 1, 0, 0, 1, 1, 1, 1]) (m_fieldfarelaw7_PoolAlltttthtblth_k K r0) a H = codeP PP CC (subC (bodyC PP 3) [1, 1, 1, 1, 0, 1, 0, 0, 1, 0, 0, 1, 1, 1, 1, 0]) (exP (codeP PP CC (subC (bodyC PP 3) [1, 1, 1, 1, 0, 1, 0, 0, 1, 0, 0, 1, 1, 1, 1, 1]) (m_fieldfarelaw7_PoolAlltttthtblth_k K r0)) (m_fieldfarelaw7_PoolAlltttthtblth_k K r0)) a H := by kernel_rfl
  have h2 : codeP PP CC (subC (bodyC PP 3) [1, 1, 1, 1, 0, 1, 0, 0, 1, 0, 0, 1, 1, 1, 1, 0]) (exP (codeP PP CC (subC (bodyC PP 3) [1, 1, 1, 1, 0, 1, 0, 0, 1, 0, 0, 1, 1, 1, 1, 1]) (m_fieldfarelaw7_PoolAlltttthtblth_k K r0)) (m_fieldfarelaw7_PoolAlltttthtblth_k K r0)) a H = codeP PP CC (subC (bodyC PP 3) [1, 1, 1, 1, 0, 1, 0, 0, 1, 0, 0, 1, 1, 1, 1, 0]) (exP (fun (a : TE) (H : AH) => m_fieldfarelaw7_PoolAlltttthtblthbttttt K r0 (a 1) (a 6) (a 7) (a 8) (a 10) (a 11) H) (m_fieldfarelaw7_PoolAlltttthtblth_k K r0)) a H := congrArg (fun k : KE => codeP PP CC (subC (bodyC PP 3) [1, 1, 1, 1, 0, 1, 0, 0, 1, 0, 0, 1, 1, 1, 1, 0]) (exP k (m_fieldfarelaw7_PoolAlltttthtblth_k K r0)) a H) (funext fun a => funext fun H => m_fieldfarelaw7_PoolAlltttthtblthbttttt_eq K r0 a H)
  have h2b : codeP PP CC (subC (bodyC PP 3) [1, 1, 1, 1, 0, 1, 0, 0, 1, 0, 0, 1, 1, 1, 1, 0]) (exP (fun (a : TE) (H : AH) => m_fieldfarelaw7_PoolAlltttthtblthbttttt K r0 (a 1) (a 6) (a 7) (a 8) (a 10) (a 11) H) (m_fieldfarelaw7_PoolAlltttthtblth_k K r0)) a H = codeP PP CC (subC (bodyC PP 3) [1, 1, 1, 1, 0, 1, 0, 0, 1, 0, 0, 1, 1, 1, 1, 0]) (m_fieldfarelaw7_PoolAlltttthtblthbtttt_k K r0) a H := by kernel_rfl
  have h3 : codeP PP CC (subC (bodyC PP 3) [1, 1, 1, 1, 0, 1, 0, 0, 1, 0, 0, 1, 1, 1, 1, 0]) (m_fieldfarelaw7_PoolAlltttthtblthbtttt_k K r0) a H = m_fieldfarelaw7_PoolAlltttthtblthbtttt K r0 (a 1) (a 6) (a 7) (a 8) (a 10) (a 11) H := by kernel_rfl
  ((h1.trans h2).trans h2b).trans h3
abbrev m_fieldfarelaw7_PoolAlltttthtblthbttt_k (K : AV → AH → Prop) (r0 : (AV × AV × AV × AV) → AH → Prop) : KP := exP (fun (a : TE) (H : AH) => m_fieldfarelaw7_PoolAlltttthtblthbtttt K r0 (a 1) (a 6) (a 7) (a 8) (a 10) (a 11) H) (m_fieldfarelaw7_PoolAlltttthtblth_k K r0)
def m_fieldfarelaw7_PoolAlltttthtblthbttt (K : AV → AH → Prop) (r0 : (AV × AV × AV × AV) → AH → Prop) (x1 x6 x7 x8 x9 : AV) (H : AH) : Prop :=
  outP CC H (w_fieldAddr 0 H x9) fun v1 H1 =>
  outP CC H1 (w_load none H1 v1) fun v2 H2 =>
  outP CC H2 (w_fieldAddr 0 H2 x9) fun v3 H3 =>
  outP CC H3 (w_load none H3 v3) fun v4 H4 =>
  outP CC H4 (some (.enter 18 [x6, v2])) fun v5 H5 =>
  ckP (reC true (w_load none H5 v3) v4) <|
  outP CC H5 (some (.enter 19 [x7, v4])) fun v6 H6 =>
  m_fieldfarelaw7_PoolAlltttthtblthbtttt K r0 x1 x6 x7 x8 v5 v6 H6
theorem m_fieldfarelaw7_PoolAlltttthtblthbttt_eq (K : AV → AH → Prop) (r0 : (AV × AV × AV × AV) → AH → Prop) (a : TE) (H : AH) : codeP PP CC (subC (bodyC PP 3) [1, 1, 1, 1, 0, 1, 0, 0, 1, 0, 0, 1, 1, 1]) (m_fieldfarelaw7_PoolAlltttthtblth_k K r0) a H = m_fieldfarelaw7_PoolAlltttthtblthbttt K r0 (a 1) (a 6) (a 7) (a 8) (a 9) H :=
  have h1 : codeP PP CC (subC (bodyC PP 3) [1, 1, 1, 1, 0, 1, 0, 0, 1, 0, 0, 1, 1, 1]) (m_fieldfarelaw7_PoolAlltttthtblth_k K r0) a H = codeP PP CC (subC (bodyC PP 3) [1, 1, 1, 1, 0, 1, 0, 0, 1, 0, 0, 1, 1, 1, 0]) (exP (codeP PP CC (subC (bodyC PP 3) [1, 1, 1, 1, 0, 1, 0, 0, 1, 0, 0, 1, 1, 1, 1]) (m_fieldfarelaw7_PoolAlltttthtblth_k K r0)) (m_fieldfarelaw7_PoolAlltttthtblth_k K r0)) a H := by kernel_rfl
  have h2 : codeP PP CC (subC (bodyC PP 3) [1, 1, 1, 1, 0, 1, 0, 0, 1, 0, 0, 1, 1, 1, 0]) (exP (codeP PP CC (subC (bodyC PP 3) [1, 1, 1, 1, 0, 1, 0, 0, 1, 0, 0, 1, 1, 1, 1]) (m_fieldfarelaw7_PoolAlltttthtblth_k K r0)) (m_fieldfarelaw7_PoolAlltttthtblth_k K r0)) a H = codeP PP CC (subC (bodyC PP 3) [1, 1, 1, 1, 0, 1, 0, 0, 1, 0, 0, 1, 1, 1, 0]) (exP (fun (a : TE) (H : AH) => m_fieldfarelaw7_PoolAlltttthtblthbtttt K r0 (a 1) (a 6) (a 7) (a 8) (a 10) (a 11) H) (m_fieldfarelaw7_PoolAlltttthtblth_k K r0)) a H := congrArg (fun k : KE => codeP PP CC (subC (bodyC PP 3) [1, 1, 1, 1, 0, 1, 0, 0, 1, 0, 0, 1, 1, 1, 0]) (exP k (m_fieldfarelaw7_PoolAlltttthtblth_k K r0)) a H) (funext fun a => funext fun H => m_fieldfarelaw7_PoolAlltttthtblthbtttt_eq K r0 a H)
  have h2b : codeP PP CC (subC (bodyC PP 3) [1, 1, 1, 1, 0, 1, 0, 0, 1, 0, 0, 1, 1, 1, 0]) (exP (fun (a : TE) (H : AH) => m_fieldfarelaw7_PoolAlltttthtblthbtttt K r0 (a 1) (a 6) (a 7) (a 8) (a 10) (a 11) H) (m_fieldfarelaw7_PoolAlltttthtblth_k K r0)) a H = codeP PP CC (subC (bodyC PP 3) [1, 1, 1, 1, 0, 1, 0, 0, 1, 0, 0, 1, 1, 1, 0]) (m_fieldfarelaw7_PoolAlltttthtblthbttt_k K r0) a H := by kernel_rfl
  have h3 : codeP PP CC (subC (bodyC PP 3) [1, 1, 1, 1, 0, 1, 0, 0, 1, 0, 0, 1, 1, 1, 0]) (m_fieldfarelaw7_PoolAlltttthtblthbttt_k K r0) a H = m_fieldfarelaw7_PoolAlltttthtblthbttt K r0 (a 1) (a 6) (a 7) (a 8) (a 9) H := by kernel_rfl
  ((h1.trans h2).trans h2b).trans h3
abbrev m_fieldfarelaw7_PoolAlltttthtblthbtt_k (K : AV → AH → Prop) (r0 : (AV × AV × AV × AV) → AH → Prop) : KP := exP (fun (a : TE) (H : AH) => m_fieldfarelaw7_PoolAlltttthtblthbttt K r0 (a 1) (a 6) (a 7) (a 8) (a 9) H) (m_fieldfarelaw7_PoolAlltttthtblth_k K r0)
def m_fieldfarelaw7_PoolAlltttthtblthbtt (K : AV → AH → Prop) (r0 : (AV × AV × AV × AV) → AH → Prop) (x1 x6 x7 x8 x9 : AV) (H : AH) : Prop :=
  outP CC H (w_fieldAddr 0 H x9) fun v1 H1 =>
  outP CC H1 (w_load none H1 v1) fun v2 H2 =>
  outP CC H2 (w_fieldAddr 1 H2 x9) fun v3 H3 =>
  outP CC H3 (w_load none H3 v3) fun v4 H4 =>
  outP CC H4 (w_fieldAddr 0 H4 x9) fun v5 H5 =>
  outP CC H5 (w_load none H5 v5) fun v6 H6 =>
  outP CC H6 (w_fieldAddr 1 H6 x9) fun v7 H7 =>
  outP CC H7 (w_load none H7 v7) fun v8 H8 =>
  outP CC H8 (some (.enter 14 [x6, v2, v4])) fun v9 H9 =>
  ckP (reC true (w_load none H9 v5) v6) <|
  ckP (reC true (w_load none H9 v7) v8) <|
  outP CC H9 (some (.enter 15 [x7, v6, v8])) fun v10 H10 =>
  outP CC H10 (w_int .neq H10 v9 v10) fun v11 H11 =>
  guardP (boolIs false v11) H11 (outP CC H11 (some (.val x6 H11))) fun v12 H12 =>
  guardP (boolIs false v11) H12 (outP CC H12 (some (.val x7 H12))) fun v13 H13 =>
  guardP (boolIs false v11) H13 (outP CC H13 (some (.enter 16 [v12]))) fun v14 H14 =>
  guardP (boolIs false v11) H14 (outP CC H14 (some (.enter 17 [v13]))) fun v15 H15 =>
  guardP (boolIs false v11) H15 (outP CC H15 (w_int .neq H15 v14 v15)) fun v16 H16 =>
  outP CC H16 (w_pick H16 v11 (.bool true) v16) fun v17 H17 =>
  condP v17
  (K (.bool false) H17)
  (m_fieldfarelaw7_PoolAlltttthtblthbttt K r0 x1 x6 x7 x8 x9 H17)
theorem m_fieldfarelaw7_PoolAlltttthtblthbtt_eq (K : AV → AH → Prop) (r0 : (AV × AV × AV × AV) → AH → Prop) (a : TE) (H : AH) : codeP PP CC (subC (bodyC PP 3) [1, 1, 1, 1, 0, 1, 0, 0, 1, 0, 0, 1, 1]) (m_fieldfarelaw7_PoolAlltttthtblth_k K r0) a H = m_fieldfarelaw7_PoolAlltttthtblthbtt K r0 (a 1) (a 6) (a 7) (a 8) (a 9) H :=
  have h1 : codeP PP CC (subC (bodyC PP 3) [1, 1, 1, 1, 0, 1, 0, 0, 1, 0, 0, 1, 1]) (m_fieldfarelaw7_PoolAlltttthtblth_k K r0) a H = codeP PP CC (subC (bodyC PP 3) [1, 1, 1, 1, 0, 1, 0, 0, 1, 0, 0, 1, 1, 0]) (exP (codeP PP CC (subC (bodyC PP 3) [1, 1, 1, 1, 0, 1, 0, 0, 1, 0, 0, 1, 1, 1]) (m_fieldfarelaw7_PoolAlltttthtblth_k K r0)) (m_fieldfarelaw7_PoolAlltttthtblth_k K r0)) a H := by kernel_rfl
  have h2 : codeP PP CC (subC (bodyC PP 3) [1, 1, 1, 1, 0, 1, 0, 0, 1, 0, 0, 1, 1, 0]) (exP (codeP PP CC (subC (bodyC PP 3) [1, 1, 1, 1, 0, 1, 0, 0, 1, 0, 0, 1, 1, 1]) (m_fieldfarelaw7_PoolAlltttthtblth_k K r0)) (m_fieldfarelaw7_PoolAlltttthtblth_k K r0)) a H = codeP PP CC (subC (bodyC PP 3) [1, 1, 1, 1, 0, 1, 0, 0, 1, 0, 0, 1, 1, 0]) (exP (fun (a : TE) (H : AH) => m_fieldfarelaw7_PoolAlltttthtblthbttt K r0 (a 1) (a 6) (a 7) (a 8) (a 9) H) (m_fieldfarelaw7_PoolAlltttthtblth_k K r0)) a H := congrArg (fun k : KE => codeP PP CC (subC (bodyC PP 3) [1, 1, 1, 1, 0, 1, 0, 0, 1, 0, 0, 1, 1, 0]) (exP k (m_fieldfarelaw7_PoolAlltttthtblth_k K r0)) a H) (funext fun a => funext fun H => m_fieldfarelaw7_PoolAlltttthtblthbttt_eq K r0 a H)
  have h2b : codeP PP CC (subC (bodyC PP 3) [1, 1, 1, 1, 0, 1, 0, 0, 1, 0, 0, 1, 1, 0]) (exP (fun (a : TE) (H : AH) => m_fieldfarelaw7_PoolAlltttthtblthbttt K r0 (a 1) (a 6) (a 7) (a 8) (a 9) H) (m_fieldfarelaw7_PoolAlltttthtblth_k K r0)) a H = codeP PP CC (subC (bodyC PP 3) [1, 1, 1, 1, 0, 1, 0, 0, 1, 0, 0, 1, 1, 0]) (m_fieldfarelaw7_PoolAlltttthtblthbtt_k K r0) a H := by kernel_rfl
  have h3 : codeP PP CC (subC (bodyC PP 3) [1, 1, 1, 1, 0, 1, 0, 0, 1, 0, 0, 1, 1, 0]) (m_fieldfarelaw7_PoolAlltttthtblthbtt_k K r0) a H = m_fieldfarelaw7_PoolAlltttthtblthbtt K r0 (a 1) (a 6) (a 7) (a 8) (a 9) H := by kernel_rfl
  ((h1.trans h2).trans h2b).trans h3
abbrev m_fieldfarelaw7_PoolAlltttthtblthbt_k (K : AV → AH → Prop) (r0 : (AV × AV × AV × AV) → AH → Prop) : KP := exP (fun (a : TE) (H : AH) => m_fieldfarelaw7_PoolAlltttthtblthbtt K r0 (a 1) (a 6) (a 7) (a 8) (a 9) H) (m_fieldfarelaw7_PoolAlltttthtblth_k K r0)
def m_fieldfarelaw7_PoolAlltttthtblthbt (K : AV → AH → Prop) (r0 : (AV × AV × AV × AV) → AH → Prop) (x1 x6 x7 x8 x9 : AV) (H : AH) : Prop :=
  outP CC H (w_fieldAddr 0 H x9) fun v1 H1 =>
  outP CC H1 (w_load none H1 v1) fun v2 H2 =>
  outP CC H2 (w_int .eql H2 v2 (.int .i64 (-9223372036854775808))) fun v3 H3 =>
  condP v3
  (m_fieldfarelaw7_PoolAlltttthtbltt K r0 x1 x6 x7 x8 H3)
  (m_fieldfarelaw7_PoolAlltttthtblthbtt K r0 x1 x6 x7 x8 x9 H3)
theorem m_fieldfarelaw7_PoolAlltttthtblthbt_eq (K : AV → AH → Prop) (r0 : (AV × AV × AV × AV) → AH → Prop) (a : TE) (H : AH) : codeP PP CC (subC (bodyC PP 3) [1, 1, 1, 1, 0, 1, 0, 0, 1, 0, 0, 1]) (m_fieldfarelaw7_PoolAlltttthtblth_k K r0) a H = m_fieldfarelaw7_PoolAlltttthtblthbt K r0 (a 1) (a 6) (a 7) (a 8) (a 9) H :=
  have h1 : codeP PP CC (subC (bodyC PP 3) [1, 1, 1, 1, 0, 1, 0, 0, 1, 0, 0, 1]) (m_fieldfarelaw7_PoolAlltttthtblth_k K r0) a H = codeP PP CC (subC (bodyC PP 3) [1, 1, 1, 1, 0, 1, 0, 0, 1, 0, 0, 1, 0]) (exP (codeP PP CC (subC (bodyC PP 3) [1, 1, 1, 1, 0, 1, 0, 0, 1, 0, 0, 1, 1]) (m_fieldfarelaw7_PoolAlltttthtblth_k K r0)) (m_fieldfarelaw7_PoolAlltttthtblth_k K r0)) a H := by kernel_rfl
  have h2 : codeP PP CC (subC (bodyC PP 3) [1, 1, 1, 1, 0, 1, 0, 0, 1, 0, 0, 1, 0]) (exP (codeP PP CC (subC (bodyC PP 3) [1, 1, 1, 1, 0, 1, 0, 0, 1, 0, 0, 1, 1]) (m_fieldfarelaw7_PoolAlltttthtblth_k K r0)) (m_fieldfarelaw7_PoolAlltttthtblth_k K r0)) a H = codeP PP CC (subC (bodyC PP 3) [1, 1, 1, 1, 0, 1, 0, 0, 1, 0, 0, 1, 0]) (exP (fun (a : TE) (H : AH) => m_fieldfarelaw7_PoolAlltttthtblthbtt K r0 (a 1) (a 6) (a 7) (a 8) (a 9) H) (m_fieldfarelaw7_PoolAlltttthtblth_k K r0)) a H := congrArg (fun k : KE => codeP PP CC (subC (bodyC PP 3) [1, 1, 1, 1, 0, 1, 0, 0, 1, 0, 0, 1, 0]) (exP k (m_fieldfarelaw7_PoolAlltttthtblth_k K r0)) a H) (funext fun a => funext fun H => m_fieldfarelaw7_PoolAlltttthtblthbtt_eq K r0 a H)
  have h2b : codeP PP CC (subC (bodyC PP 3) [1, 1, 1, 1, 0, 1, 0, 0, 1, 0, 0, 1, 0]) (exP (fun (a : TE) (H : AH) => m_fieldfarelaw7_PoolAlltttthtblthbtt K r0 (a 1) (a 6) (a 7) (a 8) (a 9) H) (m_fieldfarelaw7_PoolAlltttthtblth_k K r0)) a H = codeP PP CC (subC (bodyC PP 3) [1, 1, 1, 1, 0, 1, 0, 0, 1, 0, 0, 1, 0]) (m_fieldfarelaw7_PoolAlltttthtblthbt_k K r0) a H := by kernel_rfl
  have h3 : codeP PP CC (subC (bodyC PP 3) [1, 1, 1, 1, 0, 1, 0, 0, 1, 0, 0, 1, 0]) (m_fieldfarelaw7_PoolAlltttthtblthbt_k K r0) a H = m_fieldfarelaw7_PoolAlltttthtblthbt K r0 (a 1) (a 6) (a 7) (a 8) (a 9) H := by kernel_rfl
  ((h1.trans h2).trans h2b).trans h3
abbrev m_fieldfarelaw7_PoolAlltttthtblthb_k (K : AV → AH → Prop) (r0 : (AV × AV × AV × AV) → AH → Prop) : KP := exP (fun (a : TE) (H : AH) => m_fieldfarelaw7_PoolAlltttthtblthbt K r0 (a 1) (a 6) (a 7) (a 8) (a 9) H) (m_fieldfarelaw7_PoolAlltttthtblth_k K r0)
def m_fieldfarelaw7_PoolAlltttthtblthb (K : AV → AH → Prop) (r0 : (AV × AV × AV × AV) → AH → Prop) (x1 x6 x7 x8 : AV) (H : AH) : Prop :=
  outP CC H (w_indexAddr (.sl 2) H x1 x8) fun v1 H1 =>
  outP CC H1 (w_load (some 2) H1 v1) fun v2 H2 =>
  outP CC H2 (w_alloc 29 [(.int .i64 0), (.int .i64 0)] H2 none) fun v3 H3 =>
  outP CC H3 (w_store 2 H3 v3 v2) fun _v4 H4 =>
  m_fieldfarelaw7_PoolAlltttthtblthbt K r0 x1 x6 x7 x8 v3 H4
theorem m_fieldfarelaw7_PoolAlltttthtblthb_eq (K : AV → AH → Prop) (r0 : (AV × AV × AV × AV) → AH → Prop) (a : TE) (H : AH) : codeP PP CC (subC (bodyC PP 3) [1, 1, 1, 1, 0, 1, 0, 0, 1, 0, 0]) (m_fieldfarelaw7_PoolAlltttthtblth_k K r0) a H = m_fieldfarelaw7_PoolAlltttthtblthb K r0 (a 1) (a 6) (a 7) (a 8) H :=
  have h1 : codeP PP CC (subC (bodyC PP 3) [1, 1, 1, 1, 0, 1, 0, 0, 1, 0, 0]) (m_fieldfarelaw7_PoolAlltttthtblth_k K r0) a H = codeP PP CC (subC (bodyC PP 3) [1, 1, 1, 1, 0, 1, 0, 0, 1, 0, 0, 0]) (exP (codeP PP CC (subC (bodyC PP 3) [1, 1, 1, 1, 0, 1, 0, 0, 1, 0, 0, 1]) (m_fieldfarelaw7_PoolAlltttthtblth_k K r0)) (m_fieldfarelaw7_PoolAlltttthtblth_k K r0)) a H := by kernel_rfl
  have h2 : codeP PP CC (subC (bodyC PP 3) [1, 1, 1, 1, 0, 1, 0, 0, 1, 0, 0, 0]) (exP (codeP PP CC (subC (bodyC PP 3) [1, 1, 1, 1, 0, 1, 0, 0, 1, 0, 0, 1]) (m_fieldfarelaw7_PoolAlltttthtblth_k K r0)) (m_fieldfarelaw7_PoolAlltttthtblth_k K r0)) a H = codeP PP CC (subC (bodyC PP 3) [1, 1, 1, 1, 0, 1, 0, 0, 1, 0, 0, 0]) (exP (fun (a : TE) (H : AH) => m_fieldfarelaw7_PoolAlltttthtblthbt K r0 (a 1) (a 6) (a 7) (a 8) (a 9) H) (m_fieldfarelaw7_PoolAlltttthtblth_k K r0)) a H := congrArg (fun k : KE => codeP PP CC (subC (bodyC PP 3) [1, 1, 1, 1, 0, 1, 0, 0, 1, 0, 0, 0]) (exP k (m_fieldfarelaw7_PoolAlltttthtblth_k K r0)) a H) (funext fun a => funext fun H => m_fieldfarelaw7_PoolAlltttthtblthbt_eq K r0 a H)
  have h2b : codeP PP CC (subC (bodyC PP 3) [1, 1, 1, 1, 0, 1, 0, 0, 1, 0, 0, 0]) (exP (fun (a : TE) (H : AH) => m_fieldfarelaw7_PoolAlltttthtblthbt K r0 (a 1) (a 6) (a 7) (a 8) (a 9) H) (m_fieldfarelaw7_PoolAlltttthtblth_k K r0)) a H = codeP PP CC (subC (bodyC PP 3) [1, 1, 1, 1, 0, 1, 0, 0, 1, 0, 0, 0]) (m_fieldfarelaw7_PoolAlltttthtblthb_k K r0) a H := by kernel_rfl
  have h3 : codeP PP CC (subC (bodyC PP 3) [1, 1, 1, 1, 0, 1, 0, 0, 1, 0, 0, 0]) (m_fieldfarelaw7_PoolAlltttthtblthb_k K r0) a H = m_fieldfarelaw7_PoolAlltttthtblthb K r0 (a 1) (a 6) (a 7) (a 8) H := by kernel_rfl
  ((h1.trans h2).trans h2b).trans h3
theorem m_fieldfarelaw7_PoolAlltttthtblth_eq (K : AV → AH → Prop) (r0 : (AV × AV × AV × AV) → AH → Prop) (a : TE) (H : AH) : codeP PP CC (subC (bodyC PP 3) [1, 1, 1, 1, 0, 1, 0, 0, 1, 0]) (m_fieldfarelaw7_PoolAlltttthtblt_k K r0) a H = m_fieldfarelaw7_PoolAlltttthtblthb K r0 (a 1) (a 6) (a 7) (a 8) H :=
  have h1 : codeP PP CC (subC (bodyC PP 3) [1, 1, 1, 1, 0, 1, 0, 0, 1, 0]) (m_fieldfarelaw7_PoolAlltttthtblt_k K r0) a H = codeP PP CC (subC (bodyC PP 3) [1, 1, 1, 1, 0, 1, 0, 0, 1, 0, 0]) (m_fieldfarelaw7_PoolAlltttthtblth_k K r0) a H := by kernel_rfl
  h1.trans (m_fieldfarelaw7_PoolAlltttthtblthb_eq K r0 a H)
theorem m_fieldfarelaw7_PoolAlltttthtblt_eq (K : AV → AH → Prop) (r0 : (AV × AV × AV × AV) → AH → Prop) (a : TE) (H : AH) : codeP PP CC (subC (bodyC PP 3) [1, 1, 1, 1, 0, 1, 0, 0, 1]) (m_fieldfarelaw7_PoolAlltttthtb_k K r0) a H = m_fieldfarelaw7_PoolAlltttthtblthb K r0 (a 1) (a 6) (a 7) (a 8) H :=
  have h1 : codeP PP CC (subC (bodyC PP 3) [1, 1, 1, 1, 0, 1, 0, 0, 1]) (m_fieldfarelaw7_PoolAlltttthtb_k K r0) a H = codeP PP CC (subC (bodyC PP 3) [1, 1, 1, 1, 0, 1, 0, 0, 1, 0]) (exP (codeP PP CC (subC (bodyC PP 3) [1, 1, 1, 1, 0, 1, 0, 0, 1, 1]) (m_fieldfarelaw7_PoolAlltttthtb_k K r0)) (m_fieldfarelaw7_PoolAlltttthtb_k K r0)) a H := by kernel_rfl
  have h2 : codeP PP CC (subC (bodyC PP 3) [1, 1, 1, 1, 0, 1, 0, 0, 1, 0]) (exP (codeP PP CC (subC (bodyC PP 3) [1, 1, 1, 1, 0, 1, 0, 0, 1, 1]) (m_fieldfarelaw7_PoolAlltttthtb_k K r0)) (m_fieldfarelaw7_PoolAlltttthtb_k K r0)) a H = codeP PP CC (subC (bodyC PP 3) [1, 1, 1, 1, 0, 1, 0, 0, 1, 0]) (exP (fun (a : TE) (H : AH) => m_fieldfarelaw7_PoolAlltttthtbltt K r0 (a 1) (a 6) (a 7) (a 8) H) (m_fieldfarelaw7_PoolAlltttthtb_k K r0)) a H := congrArg (fun k : KE => codeP PP CC (subC (bodyC PP 3) [1, 1, 1, 1, 0, 1, 0, 0, 1, 0]) (exP k (m_fieldfarelaw7_PoolAlltttthtb_k K r0)) a H) (funext fun a => funext fun H => m_fieldfarelaw7_PoolAlltttthtbltt_eq K r0 a H)
  have h2b : codeP PP CC (subC (bodyC PP 3) [1, 1, 1, 1, 0, 1, 0, 0, 1, 0]) (exP (fun (a : TE) (H : AH) => m_fieldfarelaw7_PoolAlltttthtbltt K r0 (a 1) (a 6) (a 7) (a 8) H) (m_fieldfarelaw7_PoolAlltttthtb_k K r0)) a H = codeP PP CC (subC (bodyC PP 3) [1, 1, 1, 1, 0, 1, 0, 0, 1, 0]) (m_fieldfarelaw7_PoolAlltttthtblt_k K r0) a H := by kernel_rfl
  ((h1.trans h2).trans h2b).trans (m_fieldfarelaw7_PoolAlltttthtblth_eq K r0 a H)
abbrev m_fieldfarelaw7_PoolAlltttthtbl_k (K : AV → AH → Prop) (r0 : (AV × AV × AV × AV) → AH → Prop) : KP := exP (fun (a : TE) (H : AH) => m_fieldfarelaw7_PoolAlltttthtblthb K r0 (a 1) (a 6) (a 7) (a 8) H) (m_fieldfarelaw7_PoolAlltttthtb_k K r0)
def m_fieldfarelaw7_PoolAlltttthtbl (K : AV → AH → Prop) (r0 : (AV × AV × AV × AV) → AH → Prop) (x1 x6 x7 x8 : AV) (H : AH) : Prop :=
  outP CC H (w_len PP 22 H x1) fun v1 H1 =>
  outP CC H1 (w_int .lss H1 x8 v1) fun v2 H2 =>
  guardP (boolIs true v2) H2 (outP CC H2 (some (.val x8 H2))) fun v3 H3 =>
  guardP (boolIs true v2) H3 (outP CC H3 (w_int .lss H3 v3 (.int .i64 40))) fun v4 H4 =>
  outP CC H4 (w_pick H4 v2 v4 (.bool false)) fun v5 H5 =>
  condP v5
  (m_fieldfarelaw7_PoolAlltttthtblthb K r0 x1 x6 x7 x8 H5)
  (outP CC H5 (some (.enter 16 [x6])) fun v6 H6 =>
  outP CC H6 (some (.enter 17 [x7])) fun v7 H7 =>
  outP CC H7 (w_int .eql H7 v6 v7) fun v8 H8 =>
  K v8 H8)
theorem m_fieldfarelaw7_PoolAlltttthtbl_eq (K : AV → AH → Prop) (r0 : (AV × AV × AV × AV) → AH → Prop) (a : TE) (H : AH) : codeP PP CC (subC (bodyC PP 3) [1, 1, 1, 1, 0, 1, 0, 0]) (m_fieldfarelaw7_PoolAlltttthtb_k K r0) a H = m_fieldfarelaw7_PoolAlltttthtbl K r0 (a 1) (a 6) (a 7) (a 8) H :=
  have h1 : codeP PP CC (subC (bodyC PP 3) [1, 1, 1, 1, 0, 1, 0, 0]) (m_fieldfarelaw7_PoolAlltttthtb_k K r0) a H = codeP PP CC (subC (bodyC PP 3) [1, 1, 1, 1, 0, 1, 0, 0, 0]) (exP (codeP PP CC (subC (bodyC PP 3) [1, 1, 1, 1, 0, 1, 0, 0, 1]) (m_fieldfarelaw7_PoolAlltttthtb_k K r0)) (m_fieldfarelaw7_PoolAlltttthtb_k K r0)) a H := by kernel_rfl
  have h2 : codeP PP CC (subC (bodyC PP 3) [1, 1, 1, 1, 0, 1, 0, 0, 0]) (exP (codeP PP CC (subC (bodyC PP 3) [1, 1, 1, 1, 0, 1, 0, 0, 1]) (m_fieldfarelaw7_PoolAlltttthtb_k K r0)) (m_fieldfarelaw7_PoolAlltttthtb_k K r0)) a H = codeP PP CC (subC (bodyC PP 3) [1, 1, 1, 1, 0, 1, 0, 0, 0]) (exP (fun (a : TE) (H : AH) => m_fieldfarelaw7_PoolAlltttthtblthb K r0 (a 1) (a 6) (a 7) (a 8) H) (m_fieldfarelaw7_PoolAlltttthtb_k K r0)) a H := congrArg (fun k : KE => codeP PP CC (subC (bodyC PP 3) [1, 1, 1, 1, 0, 1, 0, 0, 0]) (exP k (m_fieldfarelaw7_PoolAlltttthtb_k K r0)) a H) (funext fun a => funext fun H => m_fieldfarelaw7_PoolAlltttthtblt_eq K r0 a H)
  have h2b : codeP PP CC (subC (bodyC PP 3) [1, 1, 1, 1, 0, 1, 0, 0, 0]) (exP (fun (a : TE) (H : AH) => m_fieldfarelaw7_PoolAlltttthtblthb K r0 (a 1) (a 6) (a 7) (a 8) H) (m_fieldfarelaw7_PoolAlltttthtb_k K r0)) a H = codeP PP CC (subC (bodyC PP 3) [1, 1, 1, 1, 0, 1, 0, 0, 0]) (m_fieldfarelaw7_PoolAlltttthtbl_k K r0) a H := by kernel_rfl
  have h3 : codeP PP CC (subC (bodyC PP 3) [1, 1, 1, 1, 0, 1, 0, 0, 0]) (m_fieldfarelaw7_PoolAlltttthtbl_k K r0) a H = m_fieldfarelaw7_PoolAlltttthtbl K r0 (a 1) (a 6) (a 7) (a 8) H := by kernel_rfl
  ((h1.trans h2).trans h2b).trans h3
def m_fieldfarelaw7_PoolAlltttthtb (K : AV → AH → Prop) (x1 x6 x7 x8 : AV) (H : AH) : Prop :=
  loopP (fun (r0 : (AV × AV × AV × AV) → AH → Prop) (s : (AV × AV × AV × AV)) (H : AH) => m_fieldfarelaw7_PoolAlltttthtbl K r0 s.1 s.2.1 s.2.2.1 s.2.2.2 H) (x1, x6, x7, x8) H
theorem m_fieldfarelaw7_PoolAlltttthtb_eq (K : AV → AH → Prop) (a : TE) (H : AH) : codeP PP CC (subC (bodyC PP 3) [1, 1, 1, 1, 0, 1, 0]) (m_fieldfarelaw7_PoolAllttttht_k K) a H = m_fieldfarelaw7_PoolAlltttthtb K (a 1) (a 6) (a 7) (a 8) H :=
  have h1 : codeP PP CC (subC (bodyC PP 3) [1, 1, 1, 1, 0, 1, 0]) (m_fieldfarelaw7_PoolAllttttht_k K) a H = loopP (fun (rec : KE) => codeP PP CC (subC (bodyC PP 3) [1, 1, 1, 1, 0, 1, 0, 0]) (exP rec (m_fieldfarelaw7_PoolAllttttht_k K))) a H := by kernel_rfl
  have h2 := loopP_iso (F := fun (rec : KE) => codeP PP CC (subC (bodyC PP 3) [1, 1, 1, 1, 0, 1, 0, 0]) (exP rec (m_fieldfarelaw7_PoolAllttttht_k K))) (S := (AV × AV × AV × AV)) (fun a => (a 1, a 6, a 7, a 8)) (fun (r0 : (AV × AV × AV × AV) → AH → Prop) (s : (AV × AV × AV × AV)) (H : AH) => m_fieldfarelaw7_PoolAlltttthtbl K r0 s.1 s.2.1 s.2.2.1 s.2.2.2 H) (fun (r0 : (AV × AV × AV × AV) → AH → Prop) (a : TE) (H : AH) => (show codeP PP CC (subC (bodyC PP 3) [1, 1, 1, 1, 0, 1, 0, 0]) (exP (fun (a : TE) (H : AH) => r0 (a 1, a 6, a 7, a 8) H) (m_fieldfarelaw7_PoolAllttttht_k K)) a H = codeP PP CC (subC (bodyC PP 3) [1, 1, 1, 1, 0, 1, 0, 0]) (m_fieldfarelaw7_PoolAlltttthtb_k K r0) a H from by kernel_rfl).trans (m_fieldfarelaw7_PoolAlltttthtbl_eq K r0 a H)) a H
  h1.trans h2
theorem m_fieldfarelaw7_PoolAllttttht_eq (K : AV → AH → Prop) (a : TE) (H : AH) : codeP PP CC (subC (bodyC PP 3) [1, 1, 1, 1, 0, 1]) (m_fieldfarelaw7_PoolAlltttt_k K) a H = m_fieldfarelaw7_PoolAlltttthtb K (a 1) (a 6) (a 7) (a 8) H :=
  have h1 : codeP PP CC (subC (bodyC PP 3) [1, 1, 1, 1, 0, 1]) (m_fieldfarelaw7_PoolAlltttt_k K) a H = codeP PP CC (subC (bodyC PP 3) [1, 1, 1, 1, 0, 1, 0]) (m_fieldfarelaw7_PoolAllttttht_k K) a H := by kernel_rfl
  h1.trans (m_fieldfarelaw7_PoolAlltttthtb_eq K a H)
abbrev m_fieldfarelaw7_PoolAlltttth_k (K : AV → AH → Prop) : KP := exP (fun (a : TE) (H : AH) => m_fieldfarelaw7_PoolAlltttthtb K (a 1) (a 6) (a 7) (a 8) H) (m_fieldfarelaw7_PoolAlltttt_k K)
def m_fieldfarelaw7_PoolAlltttth (K : AV → AH → Prop) (x1 x6 x7 : AV) (H : AH) : Prop :=
  m_fieldfarelaw7_PoolAlltttthtb K x1 x6 x7 (.int .i64 0) H
theorem m_fieldfarelaw7_PoolAlltttth_eq (K : AV → AH → Prop) (a : TE) (H : AH) : codeP PP CC (subC (bodyC PP 3) [1, 1, 1, 1, 0]) (m_fieldfarelaw7_PoolAlltttt_k K) a H = m_fieldfarelaw7_PoolAlltttth K (a 1) (a 6) (a 7) H :=
  have h1 : codeP PP CC (subC (bodyC PP 3) [1, 1, 1, 1, 0]) (m_fieldfarelaw7_PoolAlltttt_k K) a H = codeP PP CC (subC (bodyC PP 3) [1, 1, 1, 1, 0, 0]) (exP (codeP PP CC (subC (bodyC PP 3) [1, 1, 1, 1, 0, 1]) (m_fieldfarelaw7_PoolAlltttt_k K)) (m_fieldfarelaw7_PoolAlltttt_k K)) a H := by kernel_rfl
  have h2 : codeP PP CC (subC (bodyC PP 3) [1, 1, 1, 1, 0, 0]) (exP (codeP PP CC (subC (bodyC PP 3) [1, 1, 1, 1, 0, 1]) (m_fieldfarelaw7_PoolAlltttt_k K)) (m_fieldfarelaw7_PoolAlltttt_k K)) a H = codeP PP CC (subC (bodyC PP 3) [1, 1, 1, 1, 0, 0]) (exP (fun (a : TE) (H : AH) => m_fieldfarelaw7_PoolAlltttthtb K (a 1) (a 6) (a 7) (a 8) H) (m_fieldfarelaw7_PoolAlltttt_k K)) a H := congrArg (fun k : KE => codeP PP CC (subC (bodyC PP 3) [1, 1, 1, 1, 0, 0]) (exP k (m_fieldfarelaw7_PoolAlltttt_k K)) a H) (funext fun a => funext fun H => m_fieldfarelaw7_PoolAllttttht_eq K a H)
  have h2b : codeP PP CC (subC (bodyC PP 3) [1, 1, 1, 1, 0, 0]) (exP (fun (a : TE) (H : AH) => m_fieldfarelaw7_PoolAlltttthtb K (a 1) (a 6) (a 7) (a 8) H) (m_fieldfarelaw7_PoolAlltttt_k K)) a H = codeP PP CC (subC (bodyC PP 3) [1, 1, 1, 1, 0, 0]) (m_fieldfarelaw7_PoolAlltttth_k K) a H := by kernel_rfl
  have h3 : codeP PP CC (subC (bodyC PP 3) [1, 1, 1, 1, 0, 0]) (m_fieldfarelaw7_PoolAlltttth_k K) a H = m_fieldfarelaw7_PoolAlltttth K (a 1) (a 6) (a 7) H := by kernel_rfl
  ((h1.trans h2).trans h2b).trans h3
theorem m_fieldfarelaw7_PoolAlltttt_eq (K : AV → AH → Prop) (a : TE) (H : AH) : codeP PP CC (subC (bodyC PP 3) [1, 1, 1, 1]) (m_fieldfarelaw7_PoolAll_K K) a H = m_fieldfarelaw7_PoolAlltttth K (a 1) (a 6) (a 7) H :=
  have h1 : codeP PP CC (subC (bodyC PP 3) [1, 1, 1, 1]) (m_fieldfarelaw7_PoolAll_K K) a H = codeP PP CC (subC (bodyC PP 3) [1, 1, 1, 1, 0]) (m_fieldfarelaw7_PoolAlltttt_k K) a H := by kernel_rfl
  h1.trans (m_fieldfarelaw7_PoolAlltttth_eq K a H)
abbrev m_fieldfarelaw7_PoolAllttt_k (K : AV → AH → Prop) : KP := exP (fun (a : TE) (H : AH) => m_fieldfarelaw7_PoolAlltttth K (a 1) (a 6) (a 7) H) (m_fieldfarelaw7_PoolAll_K K)
def m_fieldfarelaw7_PoolAllttt (K : AV → AH → Prop) (x0 x1 : AV) (H : AH) : Prop :=
  outP CC H (some (.enter 12 [x0])) fun v1 H1 =>
  outP CC H1 (some (.enter 13 [x0])) fun v2 H2 =>
  m_fieldfarelaw7_PoolAlltttth K x1 v1 v2 H2
theorem m_fieldfarelaw7_PoolAllttt_eq (K : AV → AH → Prop) (a : TE) (H : AH) : codeP PP CC (subC (bodyC PP 3) [1, 1, 1]) (m_fieldfarelaw7_PoolAll_K K) a H = m_fieldfarelaw7_PoolAllttt K (a 0) (a 1) H :=
  have h1 : codeP PP CC (subC (bodyC PP 3) [1, 1, 1]) (m_fieldfarelaw7_PoolAll_K K) a H = codeP PP CC (subC (bodyC PP 3) [1, 1, 1, 0]) (exP (codeP PP CC (subC (bodyC PP 3) [1, 1, 1, 1]) (m_fieldfarelaw7_PoolAll_K K)) (m_fieldfarelaw7_PoolAll_K K)) a H := by kernel_rfl
  have h2 : codeP PP CC (subC (bodyC PP 3) [1, 1, 1, 0]) (exP (codeP PP CC (subC (bodyC PP 3) [1, 1, 1, 1]) (m_fieldfarelaw7_PoolAll_K K)) (m_fieldfarelaw7_PoolAll_K K)) a H = codeP PP CC (subC (bodyC PP 3) [1, 1, 1, 0]) (exP (fun (a : TE) (H : AH) => m_fieldfarelaw7_PoolAlltttth K (a 1) (a 6) (a 7) H) (m_fieldfarelaw7_PoolAll_K K)) a H := congrArg (fun k : KE => codeP PP CC (subC (bodyC PP 3) [1, 1, 1, 0]) (exP k (m_fieldfarelaw7_PoolAll_K K)) a H) (funext fun a => funext fun H => m_fieldfarelaw7_PoolAlltttt_eq K a H)
  have h2b : codeP PP CC (subC (bodyC PP 3) [1, 1, 1, 0]) (exP (fun (a : TE) (H : AH) => m_fieldfarelaw7_PoolAlltttth K (a 1) (a 6) (a 7) H) (m_fieldfarelaw7_PoolAll_K K)) a H = codeP PP CC (subC (bodyC PP 3) [1, 1, 1, 0]) (m_fieldfarelaw7_PoolAllttt_k K) a H := by kernel_rfl
  have h3 : codeP PP CC (subC (bodyC PP 3) [1, 1, 1, 0]) (m_fieldfarelaw7_PoolAllttt_k K) a H = m_fieldfarelaw7_PoolAllttt K (a 0) (a 1) H := by kernel_rfl
  ((h1.trans h2).trans h2b).trans h3
abbrev m_fieldfarelaw7_PoolAlltt_k (K : AV → AH → Prop) : KP := exP (fun (a : TE) (H : AH) => m_fieldfarelaw7_PoolAllttt K (a 0) (a 1) H) (m_fieldfarelaw7_PoolAll_K K)
def m_fieldfarelaw7_PoolAlltt (K : AV → AH → Prop) (x0 x1 x5 : AV) (H : AH) : Prop :=
  outP CC H (w_un .not H x5) fun v1 H1 =>
  condP v1
  (K (.bool false) H1)
  (m_fieldfarelaw7_PoolAllttt K x0 x1 H1)
theorem m_fieldfarelaw7_PoolAlltt_eq (K : AV → AH → Prop) (a : TE) (H : AH) : codeP PP CC (subC (bodyC PP 3) [1, 1]) (m_fieldfarelaw7_PoolAll_K K) a H = m_fieldfarelaw7_PoolAlltt K (a 0) (a 1) (a 5) H :=
  have h1 : codeP PP CC (subC (bodyC PP 3) [1, 1]) (m_fieldfarelaw7_PoolAll_K K) a H = codeP PP CC (subC (bodyC PP 3) [1, 1, 0]) (exP (codeP PP CC (subC (bodyC PP 3) [1, 1, 1]) (m_fieldfarelaw7_PoolAll_K K)) (m_fieldfarelaw7_PoolAll_K K)) a H := by kernel_rfl
  have h2 : codeP PP CC (subC (bodyC PP 3) [1, 1, 0]) (exP (codeP PP CC (subC (bodyC PP 3) [1, 1, 1]) (m_fieldfarelaw7_PoolAll_K K)) (m_fieldfarelaw7_PoolAll_K K)) a H = codeP PP CC (subC (bodyC PP 3) [1, 1, 0]) (exP (fun (a : TE) (H : AH) => m_fieldfarelaw7_PoolAllttt K (a 0) (a 1) H) (m_fieldfarelaw7_PoolAll_K K)) a H := congrArg (fun k : KE => codeP PP CC (subC (bodyC PP 3) [1, 1, 0]) (exP k (m_fieldfarelaw7_PoolAll_K K)) a H) (funext fun a => funext fun H => m_fieldfarelaw7_PoolAllttt_eq K a H)
  have h2b : codeP PP CC (subC (bodyC PP 3) [1, 1, 0]) (exP (fun (a : TE) (H : AH) => m_fieldfarelaw7_PoolAllttt K (a 0) (a 1) H) (m_fieldfarelaw7_PoolAll_K K)) a H = codeP PP CC (subC (bodyC PP 3) [1, 1, 0]) (m_fieldfarelaw7_PoolAlltt_k K) a H := by kernel_rfl
  have h3 : codeP PP CC (subC (bodyC PP 3) [1, 1, 0]) (m_fieldfarelaw7_PoolAlltt_k K) a H = m_fieldfarelaw7_PoolAlltt K (a 0) (a 1) (a 5) H := by kernel_rfl
  ((h1.trans h2).trans h2b).trans h3
abbrev m_fieldfarelaw7_PoolAllt_k (K : AV → AH → Prop) : KP := exP (fun (a : TE) (H : AH) => m_fieldfarelaw7_PoolAlltt K (a 0) (a 1) (a 5) H) (m_fieldfarelaw7_PoolAll_K K)
def m_fieldfarelaw7_PoolAllt (K : AV → AH → Prop) (x0 x1 : AV) (H : AH) : Prop :=
  outP CC H (some (.enter 11 [])) fun v1 H1 =>
  m_fieldfarelaw7_PoolAlltt K x0 x1 v1 H1
theorem m_fieldfarelaw7_PoolAllt_eq (K : AV → AH → Prop) (a : TE) (H : AH) : codeP PP CC (subC (bodyC PP 3) [1]) (m_fieldfarelaw7_PoolAll_K K) a H = m_fieldfarelaw7_PoolAllt K (a 0) (a 1) H :=
  have h1 : codeP PP CC (subC (bodyC PP 3) [1]) (m_fieldfarelaw7_PoolAll_K K) a H = codeP PP CC (subC (bodyC PP 3) [1, 0]) (exP (codeP PP CC (subC (bodyC PP 3) [1, 1]) (m_fieldfarelaw7_PoolAll_K K)) (m_fieldfarelaw7_PoolAll_K K)) a H := by kernel_rfl
  have h2 : codeP PP CC (subC (bodyC PP 3) [1, 0]) (exP (codeP PP CC (subC (bodyC PP 3) [1, 1]) (m_fieldfarelaw7_PoolAll_K K)) (m_fieldfarelaw7_PoolAll_K K)) a H = codeP PP CC (subC (bodyC PP 3) [1, 0]) (exP (fun (a : TE) (H : AH) => m_fieldfarelaw7_PoolAlltt K (a 0) (a 1) (a 5) H) (m_fieldfarelaw7_PoolAll_K K)) a H := congrArg (fun k : KE => codeP PP CC (subC (bodyC PP 3) [1, 0]) (exP k (m_fieldfarelaw7_PoolAll_K K)) a H) (funext fun a => funext fun H => m_fieldfarelaw7_PoolAlltt_eq K a H)
  have h2b : codeP PP CC (subC (bodyC PP 3) [1, 0]) (exP (fun (a : TE) (H : AH) => m_fieldfarelaw7_PoolAlltt K (a 0) (a 1) (a 5) H) (m_fieldfarelaw7_PoolAll_K K)) a H = codeP PP CC (subC (bodyC PP 3) [1, 0]) (m_fieldfarelaw7_PoolAllt_k K) a H := by kernel_rfl
  have h3 : codeP PP CC (subC (bodyC PP 3) [1, 0]) (m_fieldfarelaw7_PoolAllt_k K) a H = m_fieldfarelaw7_PoolAllt K (a 0) (a 1) H := by kernel_rfl
  ((h1.trans h2).trans h2b).trans h3
abbrev m_fieldfarelaw7_PoolAll_k (K : AV → AH → Prop) : KP := exP (fun (a : TE) (H : AH) => m_fieldfarelaw7_PoolAllt K (a 0) (a 1) H) (m_fieldfarelaw7_PoolAll_K K)
def m_fieldfarelaw7_PoolAll (K : AV → AH → Prop) (x0 x1 : AV) (H : AH) : Prop :=
  m_fieldfarelaw7_PoolAllt K x0 x1 H
theorem m_fieldfarelaw7_PoolAll_eq (K : AV → AH → Prop) (a : TE) (H : AH) : codeP PP CC (subC (bodyC PP 3) []) (m_fieldfarelaw7_PoolAll_K K) a H = m_fieldfarelaw7_PoolAll K (a 0) (a 1) H :=
  have h1 : codeP PP CC (subC (bodyC PP 3) []) (m_fieldfarelaw7_PoolAll_K K) a H = codeP PP CC (subC (bodyC PP 3) [0]) (exP (codeP PP CC (subC (bodyC PP 3) [1]) (m_fieldfarelaw7_PoolAll_K K)) (m_fieldfarelaw7_PoolAll_K K)) a H := by kernel_rfl
  have h2 : codeP PP CC (subC (bodyC PP 3) [0]) (exP (codeP PP CC (subC (bodyC PP 3) [1]) (m_fieldfarelaw7_PoolAll_K K)) (m_fieldfarelaw7_PoolAll_K K)) a H = codeP PP CC (subC (bodyC PP 3) [0]) (exP (fun (a : TE) (H : AH) => m_fieldfarelaw7_PoolAllt K (a 0) (a 1) H) (m_fieldfarelaw7_PoolAll_K K)) a H := congrArg (fun k : KE => codeP PP CC (subC (bodyC PP 3) [0]) (exP k (m_fieldfarelaw7_PoolAll_K K)) a H) (funext fun a => funext fun H => m_fieldfarelaw7_PoolAllt_eq K a H)
  have h2b : codeP PP CC (subC (bodyC PP 3) [0]) (exP (fun (a : TE) (H : AH) => m_fieldfarelaw7_PoolAllt K (a 0) (a 1) H) (m_fieldfarelaw7_PoolAll_K K)) a H = codeP PP CC (subC (bodyC PP 3) [0]) (m_fieldfarelaw7_PoolAll_k K) a H := by kernel_rfl
  have h3 : codeP PP CC (subC (bodyC PP 3) [0]) (m_fieldfarelaw7_PoolAll_k K) a H = m_fieldfarelaw7_PoolAll K (a 0) (a 1) H := by kernel_rfl
  ((h1.trans h2).trans h2b).trans h3
theorem m_fieldfarelaw7_PoolAll_ok (x0 x1 : AV) (H : AH) (K : AV → AH → Prop) (h : m_fieldfarelaw7_PoolAll K x0 x1 H) : CC.call 3 [x0, x1] H K :=
  have h1 : funP PP CC 3 [x0, x1] H K = codeP PP CC (subC (bodyC PP 3) []) (m_fieldfarelaw7_PoolAll_K K) (argE [x0, x1]) H := by kernel_rfl
  have h2 : m_fieldfarelaw7_PoolAll K (argE [x0, x1] 0) (argE [x0, x1] 1) H = m_fieldfarelaw7_PoolAll K x0 x1 H := by kernel_rfl
  funP_ok (P := PP) (by kernel_rfl) (by kernel_rfl) ((h1.trans ((m_fieldfarelaw7_PoolAll_eq K (argE [x0, x1]) H).trans h2)).mpr h)

end
end Go.Ab
