/- What functions do, said as what the evaluator does. Printed by a program. -/
import Derived.Test.YtjpjmeidpjjgdaaGreatDoorBeg
import Derived.Test.YtjpjmeidpjjgdaaGreatDoorEv3
namespace Go.Ab
noncomputable section
open Go.Proofs
set_option maxRecDepth 100000



/-! 7: fieldfare/fieldfarelaw7.PoolLeast -/
abbrev m_fieldfarelaw7_PoolLeast_K (K : AV → AH → Prop) : KP := finP PP (resC PP 7) K
abbrev m_fieldfarelaw7_PoolLeasttttttttttt_k (K : AV → AH → Prop) : KP := exP (codeP PP CC (subC (bodyC PP 7) [1, 1, 1, 1, 1, 1, 1, 1, 1, 1, 1]) (m_fieldfarelaw7_PoolLeast_K K)) (m_fieldfarelaw7_PoolLeast_K K)
abbrev m_fieldfarelaw7_PoolLeastttttttttttht_k (K : AV → AH → Prop) : KP := blockP 0 (m_fieldfarelaw7_PoolLeasttttttttttt_k K)
abbrev m_fieldfarelaw7_PoolLeasttttttttttthtb_k (K : AV → AH → Prop) (r0 : (AV × AV × AV × AV × AV × AV × AV) → AH → Prop) : KP := exP (fun (a : TE) (H : AH) => r0 (a 0, a 1, a 2, a 8, a 9, a 44, a 45) H) (m_fieldfarelaw7_PoolLeastttttttttttht_k K)
abbrev m_fieldfarelaw7_PoolLeasttttttttttthtbltt_k (K : AV → AH → Prop) (r0 : (AV × AV × AV × AV × AV × AV × AV) → AH → Prop) : KP := exP (codeP PP CC (subC (bodyC PP 7) [1, 1, 1, 1, 1, 1, 1, 1, 1, 1, 0, 1, 0, 0, 1, 1, 1]) (m_fieldfarelaw7_PoolLeasttttttttttthtb_k K r0)) (m_fieldfarelaw7_PoolLeasttttttttttthtb_k K r0)
abbrev m_fieldfarelaw7_PoolLeasttttttttttthtbltth_k (K : AV → AH → Prop) (r0 : (AV × AV × AV × AV × AV × AV × AV) → AH → Prop) : KP := blockP 1 (m_fieldfarelaw7_PoolLeasttttttttttthtbltt_k K r0)
def m_fieldfarelaw7_PoolLeasttttttttttthtbltthbttt (K : AV → AH → Prop) (r0 : (AV × AV × AV × AV × AV × AV × AV) → AH → Prop) (x0 x1 x2 x8 x9 x10 x11 x44 x45 : AV) (H : AH) : Prop :=
  outP CC H (w_indexAddr (.sl 1) H x9 x10) fun v1 H1 =>
  outP CC H1 (w_load none H1 v1) fun v2 H2 =>
  outP CC H2 (w_int .neq H2 v2 x11) fun v3 H3 =>
  condP v3
  (K (.bool false) H3)
  (outP CC H3 (w_int .add H3 x45 (.int .i64 1)) fun v4 H4 =>
  r0 (x0, x1, x2, x8, x9, x44, v4) H4)
theorem m_fieldfarelaw7_PoolLeasttttttttttthtbltthbttt_eq (K : AV → AH → Prop) (r0 : (AV × AV × AV × AV × AV × AV × AV) → AH → Prop) (a : TE) (H : AH) : codeP PP CC (subC (bodyC PP 7) [1, 1, 1, 1, 1, 1, 1, 1, 1, 1, 0, 1, 0, 0, 1, 1, 0, 0, 1, 1, 1]) (m_fieldfarelaw7_PoolLeasttttttttttthtbltth_k K r0) a H = m_fieldfarelaw7_PoolLeasttttttttttthtbltthbttt K r0 (a 0) (a 1) (a 2) (a 8) (a 9) (a 10) (a 11) (a 44) (a 45) H :=
  by kernel_rfl
abbrev m_fieldfarelaw7_PoolLeasttttttttttthtbltthbtt_k (K : AV → AH → Prop) (r0 : (AV × AV × AV × AV × AV × AV × AV) → AH → Prop) : KP := exP (fun (a : TE) (H : AH) => m_fieldfarelaw7_PoolLeasttttttttttthtbltthbttt K r0 (a 0) (a 1) (a 2) (a 8) (a 9) (a 10) (a 11) (a 44) (a 45) H) (m_fieldfarelaw7_PoolLeasttttttttttthtbltth_k K r0)
def m_fieldfarelaw7_PoolLeasttttttttttthtbltthbtt (K : AV → AH → Prop) (r0 : (AV × AV × AV × AV × AV × AV × AV) → AH → Prop) (x0 x1 x2 x8 x9 x10 x11 x44 x45 : AV) (H : AH) : Prop :=
  outP CC H (w_int .quo H x0 (.int .i64 2)) fun v1 H1 =>
  outP CC H1 (w_int .sub H1 x0 v1) fun v2 H2 =>
  outP CC H2 (w_int .geq H2 x10 v2) fun v3 H3 =>
  condP v3
  (outP CC H3 (w_int .add H3 x0 x1) fun v4 H4 =>
  outP CC H4 (w_int .add H4 v4 x10) fun v5 H5 =>
  outP CC H5 (w_int .quo H5 x0 (.int .i64 2)) fun v6 H6 =>
  outP CC H6 (w_int .sub H6 x0 v6) fun v7 H7 =>
  outP CC H7 (w_int .sub H7 v5 v7) fun v8 H8 =>
  m_fieldfarelaw7_PoolLeasttttttttttthtbltthbttt K r0 x0 x1 x2 x8 x9 x10 v8 x44 x45 H8)
  (m_fieldfarelaw7_PoolLeasttttttttttthtbltthbttt K r0 x0 x1 x2 x8 x9 x10 x11 x44 x45 H3)
theorem m_fieldfarelaw7_PoolLeasttttttttttthtbltthbtt_eq (K : AV → AH → Prop) (r0 : (AV × AV × AV × AV × AV × AV × AV) → AH → Prop) (a : TE) (H : AH) : codeP PP CC (subC (bodyC PP 7) [1, 1, 1, 1, 1, 1, 1, 1, 1, 1, 0, 1, 0, 0, 1, 1, 0, 0, 1, 1]) (m_fieldfarelaw7_PoolLeasttttttttttthtbltth_k K r0) a H = m_fieldfarelaw7_PoolLeasttttttttttthtbltthbtt K r0 (a 0) (a 1) (a 2) (a 8) (a 9) (a 10) (a 11) (a 44) (a 45) H :=
  have h1 : codeP PP CC (subC (bodyC PP 7) [1, 1, 1, 1, 1, 1, 1, 1, 1, 1, 0, 1, 0, 0, 1, 1, 0, 0, 1, 1]) (m_fieldfarelaw7_PoolLeasttttttttttthtbltth_k K r0) a H = codeP PP CC (subC (bodyC PP 7) [1, 1, 1, 1, 1, 1, 1, 1, 1, 1, 0, 1, 0, 0, 1, 1, 0, 0, 1, 1, 0]) (exP (codeP PP CC (subC (bodyC PP 7) [1, 1, 1, 1, 1, 1, 1, 1, 1, 1, 0, 1, 0, 0, 1, 1, 0, 0, 1, 1, 1]) (m_fieldfarelaw7_PoolLeasttttttttttthtbltth_k K r0)) (m_fieldfarelaw7_PoolLeasttttttttttthtbltth_k K r0)) a H := by kernel_rfl
  have h2 : codeP PP CC (subC (bodyC PP 7) [1, 1, 1, 1, 1, 1, 1, 1, 1, 1, 0, 1, 0, 0, 1, 1, 0, 0, 1, 1, 0]) (exP (codeP PP CC (subC (bodyC PP 7) [1, 1, 1, 1, 1, 1, 1, 1, 1, 1, 0, 1, 0, 0, 1, 1, 0, 0, 1, 1, 1]) (m_fieldfarelaw7_PoolLeasttttttttttthtbltth_k K r0)) (m_fieldfarelaw7_PoolLeasttttttttttthtbltth_k K r0)) a H = codeP PP CC (subC (bodyC PP 7) [1, 1, 1, 1, 1, 1, 1, 1, 1, 1, 0, 1, 0, 0, 1, 1, 0, 0, 1, 1, 0]) (exP (fun (a : TE) (H : AH) => m_fieldfarelaw7_PoolLeasttttttttttthtbltthbttt K r0 (a 0) (a 1) (a 2) (a 8) (a 9) (a 10) (a 11) (a 44) (a 45) H) (m_fieldfarelaw7_PoolLeasttttttttttthtbltth_k K r0)) a H := congrArg (fun k : KE => codeP PP CC (subC (bodyC PP 7) [1, 1, 1, 1, 1, 1, 1, 1, 1, 1, 0, 1, 0, 0, 1, 1, 0, 0, 1, 1, 0]) (exP k (m_fieldfarelaw7_PoolLeasttttttttttthtbltth_k K r0)) a H) (funext fun a => funext fun H => m_fieldfarelaw7_PoolLeasttttttttttthtbltthbttt_eq K r0 a H)
  have h2b : codeP PP CC (subC (bodyC PP 7) [1, 1, 1, 1, 1, 1, 1, 1, 1, 1, 0, 1, 0, 0, 1, 1, 0, 0, 1, 1, 0]) (exP (fun (a : TE) (H : AH) => m_fieldfarelaw7_PoolLeasttttttttttthtbltthbttt K r0 (a 0) (a 1) (a 2) (a 8) (a 9) (a 10) (a 11) (a 44) (a 45) H) (m_fieldfarelaw7_PoolLeasttttttttttthtbltth_k K r0)) a H = codeP PP CC (subC (bodyC PP 7) [1, 1, 1, 1, 1, 1, 1, 1, 1, 1, 0, 1, 0, 0, 1, 1, 0, 0, 1, 1, 0]) (m_fieldfarelaw7_PoolLeasttttttttttthtbltthbtt_k K r0) a H := by kernel_rfl
  have h3 : codeP PP CC (subC (bodyC PP 7) [1, 1, 1, 1, 1, 1, 1, 1, 1, 1, 0, 1, 0, 0, 1, 1, 0, 0, 1, 1, 0]) (m_fieldfarelaw7_PoolLeasttttttttttthtbltthbtt_k K r0) a H = m_fieldfarelaw7_PoolLeasttttttttttthtbltthbtt K r0 (a 0) (a 1) (a 2) (a 8) (a 9) (a 10) (a 11) (a 44) (a 45) H := by kernel_rfl
  ((h1.trans h2).trans h2b).trans h3
abbrev m_fieldfarelaw7_PoolLeasttttttttttthtbltthbt_k (K : AV → AH → Prop) (r0 : (AV × AV × AV × AV × AV × AV × AV) → AH → Prop) : KP := exP (fun (a : TE) (H : AH) => m_fieldfarelaw7_PoolLeasttttttttttthtbltthbtt K r0 (a 0) (a 1) (a 2) (a 8) (a 9) (a 10) (a 11) (a 44) (a 45) H) (m_fieldfarelaw7_PoolLeasttttttttttthtbltth_k K r0)
def m_fieldfarelaw7_PoolLeasttttttttttthtbltthbt (K : AV → AH → Prop) (r0 : (AV × AV × AV × AV × AV × AV × AV) → AH → Prop) (x0 x1 x2 x8 x9 x10 x44 x45 : AV) (H : AH) : Prop :=
  outP CC H (w_int .quo H x0 (.int .i64 2)) fun v1 H1 =>
  outP CC H1 (w_int .add H1 v1 x10) fun v2 H2 =>
  m_fieldfarelaw7_PoolLeasttttttttttthtbltthbtt K r0 x0 x1 x2 x8 x9 x10 v2 x44 x45 H2
theorem m_fieldfarelaw7_PoolLeasttttttttttthtbltthbt_eq (K : AV → AH → Prop) (r0 : (AV × AV × AV × AV × AV × AV × AV) → AH → Prop) (a : TE) (H : AH) : codeP PP CC (subC (bodyC PP 7) [1, 1, 1, 1, 1, 1, 1, 1, 1, 1, 0, 1, 0, 0, 1, 1, 0, 0, 1]) (m_fieldfarelaw7_PoolLeasttttttttttthtbltth_k K r0) a H = m_fieldfarelaw7_PoolLeasttttttttttthtbltthbt K r0 (a 0) (a 1) (a 2) (a 8) (a 9) (a 10) (a 44) (a 45) H :=
  have h1 : codeP PP CC (subC (bodyC PP 7) [1, 1, 1, 1, 1, 1, 1, 1, 1, 1, 0, 1, 0, 0, 1, 1, 0, 0, 1]) (m_fieldfarelaw7_PoolLeasttttttttttthtbltth_k K r0) a H = codeP PP CC (subC (bodyC PP 7) [1, 1, 1, 1, 1, 1, 1, 1, 1, 1, 0, 1, 0, 0, 1, 1, 0, 0, 1, 0]) (exP (codeP PP CC (subC (bodyC PP 7) [1, 1, 1, 1, 1, 1, 1, 1, 1, 1, 0, 1, 0, 0, 1, 1, 0, 0, 1, 1]) (m_fieldfarelaw7_PoolLeasttttttttttthtbltth_k K r0)) (m_fieldfarelaw7_PoolLeasttttttttttthtbltth_k K r0)) a H := by kernel_rfl
  have h2 : codeP PP CC (subC (bodyC PP 7) [1, 1, 1, 1, 1, 1, 1, 1, 1, 1, 0, 1, 0, 0, 1, 1, 0, 0, 1, 0]) (exP (codeP PP CC (subC (bodyC PP 7) [1, 1, 1, 1, 1, 1, 1, 1, 1, 1, 0, 1, 0, 0, 1, 1, 0, 0, 1, 1]) (m_fieldfarelaw7_PoolLeasttttttttttthtbltth_k K r0)) (m_fieldfarelaw7_PoolLeasttttttttttthtbltth_k K r0)) a H = codeP PP CC (subC (bodyC PP 7) [1, 1, 1, 1, 1, 1, 1, 1, 1, 1, 0, 1, 0, 0, 1, 1, 0, 0, 1, 0]) (exP (fun (a : TE) (H : AH) => m_fieldfarelaw7_PoolLeasttttttttttthtbltthbtt K r0 (a 0) (a 1) (a 2) (a 8) (a 9) (a 10) (a 11) (a 44) (a 45) H) (m_fieldfarelaw7_PoolLeasttttttttttthtbltth_k K r0)) a H := congrArg (fun k : KE => codeP PP CC (subC (bodyC PP 7) [1, 1, 1, 1, 1, 1, 1, 1, 1, 1, 0, 1, 0, 0, 1, 1, 0, 0, 1, 0]) (exP k (m_fieldfarelaw7_PoolLeasttttttttttthtbltth_k K r0)) a H) (funext fun a => funext fun H => m_fieldfarelaw7_PoolLeasttttttttttthtbltthbtt_eq K r0 a H)
  have h2b : codeP PP CC (subC (bodyC PP 7) [1, 1, 1, 1, 1, 1, 1, 1, 1, 1, 0, 1, 0, 0, 1, 1, 0, 0, 1, 0]) (exP (fun (a : TE) (H : AH) => m_fieldfarelaw7_PoolLeasttttttttttthtbltthbtt K r0 (a 0) (a 1) (a 2) (a 8) (a 9) (a 10) (a 11) (a 44) (a 45) H) (m_fieldfarelaw7_PoolLeasttttttttttthtbltth_k K r0)) a H = codeP PP CC (subC (bodyC PP 7) [1, 1, 1, 1, 1, 1, 1, 1, 1, 1, 0, 1, 0, 0, 1, 1, 0, 0, 1, 0]) (m_fieldfarelaw7_PoolLeasttttttttttthtbltthbt_k K r0) a H := by kernel_rfl
  have h3 : codeP PP CC (subC (bodyC PP 7) [1, 1, 1, 1, 1, 1, 1, 1, 1, 1, 0, 1, 0, 0, 1, 1, 0, 0, 1, 0]) (m_fieldfarelaw7_PoolLeasttttttttttthtbltthbt_k K r0) a H = m_fieldfarelaw7_PoolLeasttttttttttthtbltthbt K r0 (a 0) (a 1) (a 2) (a 8) (a 9) (a 10) (a 44) (a 45) H := by kernel_rfl
  ((h1.trans h2).trans h2b).trans h3
abbrev m_fieldfarelaw7_PoolLeasttttttttttthtbltthb_k (K : AV → AH → Prop) (r0 : (AV × AV × AV × AV × AV × AV × AV) → AH → Prop) : KP := exP (fun (a : TE) (H : AH) => m_fieldfarelaw7_PoolLeasttttttttttthtbltthbt K r0 (a 0) (a 1) (a 2) (a 8) (a 9) (a 10) (a 44) (a 45) H) (m_fieldfarelaw7_PoolLeasttttttttttthtbltth_k K r0)
def m_fieldfarelaw7_PoolLeasttttttttttthtbltthb (K : AV → AH → Prop) (r0 : (AV × AV × AV × AV × AV × AV × AV) → AH → Prop) (x0 x1 x2 x8 x9 x44 x45 : AV) (H : AH) : Prop :=
  m_fieldfarelaw7_PoolLeasttttttttttthtbltthbt K r0 x0 x1 x2 x8 x9 x45 x44 x45 H
theorem m_fieldfarelaw7_PoolLeasttttttttttthtbltthb_eq (K : AV → AH → Prop) (r0 : (AV × AV × AV × AV × AV × AV × AV) → AH → Prop) (a : TE) (H : AH) : codeP PP CC (subC (bodyC PP 7) [1, 1, 1, 1, 1, 1, 1, 1, 1, 1, 0, 1, 0, 0, 1, 1, 0, 0]) (m_fieldfarelaw7_PoolLeasttttttttttthtbltth_k K r0) a H = m_fieldfarelaw7_PoolLeasttttttttttthtbltthb K r0 (a 0) (a 1) (a 2) (a 8) (a 9) (a 44) (a 45) H :=
  have h1 : codeP PP CC (subC (bodyC PP 7) [1, 1, 1, 1, 1, 1, 1, 1, 1, 1, 0, 1, 0, 0, 1, 1, 0, 0]) (m_fieldfarelaw7_PoolLeasttttttttttthtbltth_k K r0) a H = codeP PP CC (subC (bodyC PP 7) [1, 1, 1, 1, 1, 1, 1, 1, 1, 1, 0, 1, 0, 0, 1, 1, 0, 0, 0]) (exP (codeP PP CC (subC (bodyC PP 7) [1, 1, 1, 1, 1, 1, 1, 1, 1, 1, 0, 1, 0, 0, 1, 1, 0, 0, 1]) (m_fieldfarelaw7_PoolLeasttttttttttthtbltth_k K r0)) (m_fieldfarelaw7_PoolLeasttttttttttthtbltth_k K r0)) a H := by kernel_rfl
  have h2 : codeP PP CC (subC (bodyC PP 7) [1, 1, 1, 1, 1, 1, 1, 1, 1, 1, 0, 1, 0, 0, 1, 1, 0, 0, 0]) (exP (codeP PP CC (subC (bodyC PP 7) [1, 1, 1, 1, 1, 1, 1, 1, 1, 1, 0, 1, 0, 0, 1, 1, 0, 0, 1]) (m_fieldfarelaw7_PoolLeasttttttttttthtbltth_k K r0)) (m_fieldfarelaw7_PoolLeasttttttttttthtbltth_k K r0)) a H = codeP PP CC (subC (bodyC PP 7) [1, 1, 1, 1, 1, 1, 1, 1, 1, 1, 0, 1, 0, 0, 1, 1, 0, 0, 0]) (exP (fun (a : TE) (H : AH) => m_fieldfarelaw7_PoolLeasttttttttttthtbltthbt K r0 (a 0) (a 1) (a 2) (a 8) (a 9) (a 10) (a 44) (a 45) H) (m_fieldfarelaw7_PoolLeasttttttttttthtbltth_k K r0)) a H := congrArg (fun k : KE => codeP PP CC (subC (bodyC PP 7) [1, 1, 1, 1, 1, 1, 1, 1, 1, 1, 0, 1, 0, 0, 1, 1, 0, 0, 0]) (exP k (m_fieldfarelaw7_PoolLeasttttttttttthtbltth_k K r0)) a H) (funext fun a => funext fun H => m_fieldfarelaw7_PoolLeasttttttttttthtbltthbt_eq K r0 a H)
  have h2b : codeP PP CC (subC (bodyC PP 7) [1, 1, 1, 1, 1, 1, 1, 1, 1, 1, 0, 1, 0, 0, 1, 1, 0, 0, 0]) (exP (fun (a : TE) (H : AH) => m_fieldfarelaw7_PoolLeasttttttttttthtbltthbt K r0 (a 0) (a 1) (a 2) (a 8) (a 9) (a 10) (a 44) (a 45) H) (m_fieldfarelaw7_PoolLeasttttttttttthtbltth_k K r0)) a H = codeP PP CC (subC (bodyC PP 7) [1, 1, 1, 1, 1, 1, 1, 1, 1, 1, 0, 1, 0, 0, 1, 1, 0, 0, 0]) (m_fieldfarelaw7_PoolLeasttttttttttthtbltthb_k K r0) a H := by kernel_rfl
  have h3 : codeP PP CC (subC (bodyC PP 7) [1, 1, 1, 1, 1, 1, 1, 1, 1, 1, 0, 1, 0, 0, 1, 1, 0, 0, 0]) (m_fieldfarelaw7_PoolLeasttttttttttthtbltthb_k K r0) a H = m_fieldfarelaw7_PoolLeasttttttttttthtbltthb K r0 (a 0) (a 1) (a 2) (a 8) (a 9) (a 44) (a 45) H := by kernel_rfl
  ((h1.trans h2).trans h2b).trans h3
theorem m_fieldfarelaw7_PoolLeasttttttttttthtbltth_eq (K : AV → AH → Prop) (r0 : (AV × AV × AV × AV × AV × AV × AV) → AH → Prop) (a : TE) (H : AH) : codeP PP CC (subC (bodyC PP 7) [1, 1, 1, 1, 1, 1, 1, 1, 1, 1, 0, 1, 0, 0, 1, 1, 0]) (m_fieldfarelaw7_PoolLeasttttttttttthtbltt_k K r0) a H = m_fieldfarelaw7_PoolLeasttttttttttthtbltthb K r0 (a 0) (a 1) (a 2) (a 8) (a 9) (a 44) (a 45) H :=
  have h1 : codeP PP CC (subC (bodyC PP 7) [1, 1, 1, 1, 1, 1, 1, 1, 1, 1, 0, 1, 0, 0, 1, 1, 0]) (m_fieldfarelaw7_PoolLeasttttttttttthtbltt_k K r0) a H = codeP PP CC (subC (bodyC PP 7) [1, 1, 1, 1, 1, 1, 1, 1, 1, 1, 0, 1, 0, 0, 1, 1, 0, 0]) (m_fieldfarelaw7_PoolLeasttttttttttthtbltth_k K r0) a H := by kernel_rfl
  h1.trans (m_fieldfarelaw7_PoolLeasttttttttttthtbltthb_eq K r0 a H)
theorem m_fieldfarelaw7_PoolLeasttttttttttthtbltt_eq (K : AV → AH → Prop) (r0 : (AV × AV × AV × AV × AV × AV × AV) → AH → Prop) (a : TE) (H : AH) : codeP PP CC (subC (bodyC PP 7) [1, 1, 1, 1, 1, 1, 1, 1, 1, 1, 0, 1, 0, 0, 1, 1]) (m_fieldfarelaw7_PoolLeasttttttttttthtb_k K r0) a H = m_fieldfarelaw7_PoolLeasttttttttttthtbltthb K r0 (a 0) (a 1) (a 2) (a 8) (a 9) (a 44) (a 45) H :=
  have h1 : codeP PP CC (subC (bodyC PP 7) [1, 1, 1, 1, 1, 1, 1, 1, 1, 1, 0, 1, 0, 0, 1, 1]) (m_fieldfarelaw7_PoolLeasttttttttttthtb_k K r0) a H = codeP PP CC (subC (bodyC PP 7) [1, 1, 1, 1, 1, 1, 1, 1, 1, 1, 0, 1, 0, 0, 1, 1, 0]) (m_fieldfarelaw7_PoolLeasttttttttttthtbltt_k K r0) a H := by kernel_rfl
  h1.trans (m_fieldfarelaw7_PoolLeasttttttttttthtbltth_eq K r0 a H)
abbrev m_fieldfarelaw7_PoolLeasttttttttttthtblt_k (K : AV → AH → Prop) (r0 : (AV × AV × AV × AV × AV × AV × AV) → AH → Prop) : KP := exP (fun (a : TE) (H : AH) => m_fieldfarelaw7_PoolLeasttttttttttthtbltthb K r0 (a 0) (a 1) (a 2) (a 8) (a 9) (a 44) (a 45) H) (m_fieldfarelaw7_PoolLeasttttttttttthtb_k K r0)
def m_fieldfarelaw7_PoolLeasttttttttttthtblt (K : AV → AH → Prop) (r0 : (AV × AV × AV × AV × AV × AV × AV) → AH → Prop) (x0 x1 x2 x8 x9 x44 x45 x46 : AV) (H : AH) : Prop :=
  condP x46
  (m_fieldfarelaw7_PoolLeasttttttttttthtbltthb K r0 x0 x1 x2 x8 x9 x44 x45 H)
  (outP CC H (w_len PP 33 H x9) fun v1 H1 =>
  outP CC H1 (w_int .eql H1 v1 x2) fun v2 H2 =>
  guardP (boolIs true v2) H2 (outP CC H2 (some (.val x8 H2))) fun v3 H3 =>
  guardP (boolIs true v2) H3 (outP CC H3 (some (.enter 18 [v3, (.int .i64 1)]))) fun v4 H4 =>
  guardP (boolIs true v2) H4 (outP CC H4 (w_len PP 33 H4 v4)) fun v5 H5 =>
  guardP (boolIs true v2) H5 (outP CC H5 (some (.val x0 H5))) fun v6 H6 =>
  guardP (boolIs true v2) H6 (outP CC H6 (w_int .quo H6 v6 (.int .i64 2))) fun v7 H7 =>
  guardP (boolIs true v2) H7 (outP CC H7 (w_int .eql H7 v5 v7)) fun v8 H8 =>
  outP CC H8 (w_pick H8 v2 v8 (.bool false)) fun v9 H9 =>
  guardP (boolIs true v9) H9 (outP CC H9 (some (.val x8 H9))) fun v10 H10 =>
  guardP (boolIs true v9) H10 (outP CC H10 (some (.enter 18 [v10, (.int .i64 2)]))) fun v11 H11 =>
  guardP (boolIs true v9) H11 (outP CC H11 (w_len PP 33 H11 v11)) fun v12 H12 =>
  guardP (boolIs true v9) H12 (outP CC H12 (some (.val x1 H12))) fun v13 H13 =>
  guardP (boolIs true v9) H13 (outP CC H13 (w_int .eql H13 v12 v13)) fun v14 H14 =>
  outP CC H14 (w_pick H14 v9 v14 (.bool false)) fun v15 H15 =>
  K v15 H15)
theorem m_fieldfarelaw7_PoolLeasttttttttttthtblt_eq (K : AV → AH → Prop) (r0 : (AV × AV × AV × AV × AV × AV × AV) → AH → Prop) (a : TE) (H : AH) : codeP PP CC (subC (bodyC PP 7) [1, 1, 1, 1, 1, 1, 1, 1, 1, 1, 0, 1, 0, 0, 1]) (m_fieldfarelaw7_PoolLeasttttttttttthtb_k K r0) a H = m_fieldfarelaw7_PoolLeasttttttttttthtblt K r0 (a 0) (a 1) (a 2) (a 8) (a 9) (a 44) (a 45) (a 46) H :=
  have h1 : codeP PP CC (subC (bodyC PP 7) [1, 1, 1, 1, 1, 1, 1, 1, 1, 1, 0, 1, 0, 0, 1]) (m_fieldfarelaw7_PoolLeasttttttttttthtb_k K r0) a H = codeP PP CC (subC (bodyC PP 7) [1, 1, 1, 1, 1, 1, 1, 1, 1, 1, 0, 1, 0, 0, 1, 0]) (exP (codeP PP CC (subC (bodyC PP 7) [1, 1, 1, 1, 1, 1, 1, 1, 1, 1, 0, 1, 0, 0, 1, 1]) (m_fieldfarelaw7_PoolLeasttttttttttthtb_k K r0)) (m_fieldfarelaw7_PoolLeasttttttttttthtb_k K r0)) a H := by kernel_rfl
  have h2 : codeP PP CC (subC (bodyC PP 7) [1, 1, 1, 1, 1, 1, 1, 1, 1, 1, 0, 1, 0, 0, 1, 0]) (exP (codeP PP CC (subC (bodyC PP 7) [1, 1, 1, 1, 1, 1, 1, 1, 1, 1, 0, 1, 0, 0, 1, 1]) (m_fieldfarelaw7_PoolLeasttttttttttthtb_k K r0)) (m_fieldfarelaw7_PoolLeasttttttttttthtb_k K r0)) a H = codeP PP CC (subC (bodyC PP 7) [1, 1, 1, 1, 1, 1, 1, 1, 1, 1, 0, 1, 0, 0, 1, 0]) (exP (fun (a : TE) (H : AH) => m_fieldfarelaw7_PoolLeasttttttttttthtbltthb K r0 (a 0) (a 1) (a 2) (a 8) (a 9) (a 44) (a 45) H) (m_fieldfarelaw7_PoolLeasttttttttttthtb_k K r0)) a H := congrArg (fun k : KE => codeP PP CC (subC (bodyC PP 7) [1, 1, 1, 1, 1, 1, 1, 1, 1, 1, 0, 1, 0, 0, 1, 0]) (exP k (m_fieldfarelaw7_PoolLeasttttttttttthtb_k K r0)) a H) (funext fun a => funext fun H => m_fieldfarelaw7_PoolLeasttttttttttthtbltt_eq K r0 a H)
  have h2b : codeP PP CC (subC (bodyC PP 7) [1, 1, 1, 1, 1, 1, 1, 1, 1, 1, 0, 1, 0, 0, 1, 0]) (exP (fun (a : TE) (H : AH) => m_fieldfarelaw7_PoolLeasttttttttttthtbltthb K r0 (a 0) (a 1) (a 2) (a 8) (a 9) (a 44) (a 45) H) (m_fieldfarelaw7_PoolLeasttttttttttthtb_k K r0)) a H = codeP PP CC (subC (bodyC PP 7) [1, 1, 1, 1, 1, 1, 1, 1, 1, 1, 0, 1, 0, 0, 1, 0]) (m_fieldfarelaw7_PoolLeasttttttttttthtblt_k K r0) a H := by kernel_rfl
  have h3 : codeP PP CC (subC (bodyC PP 7) [1, 1, 1, 1, 1, 1, 1, 1, 1, 1, 0, 1, 0, 0, 1, 0]) (m_fieldfarelaw7_PoolLeasttttttttttthtblt_k K r0) a H = m_fieldfarelaw7_PoolLeasttttttttttthtblt K r0 (a 0) (a 1) (a 2) (a 8) (a 9) (a 44) (a 45) (a 46) H := by kernel_rfl
  ((h1.trans h2).trans h2b).trans h3
abbrev m_fieldfarelaw7_PoolLeasttttttttttthtbl_k (K : AV → AH → Prop) (r0 : (AV × AV × AV × AV × AV × AV × AV) → AH → Prop) : KP := exP (fun (a : TE) (H : AH) => m_fieldfarelaw7_PoolLeasttttttttttthtblt K r0 (a 0) (a 1) (a 2) (a 8) (a 9) (a 44) (a 45) (a 46) H) (m_fieldfarelaw7_PoolLeasttttttttttthtb_k K r0)
def m_fieldfarelaw7_PoolLeasttttttttttthtbl (K : AV → AH → Prop) (r0 : (AV × AV × AV × AV × AV × AV × AV) → AH → Prop) (x0 x1 x2 x8 x9 x44 x45 : AV) (H : AH) : Prop :=
  outP CC H (w_int .lss H x45 x44) fun v1 H1 =>
  m_fieldfarelaw7_PoolLeasttttttttttthtblt K r0 x0 x1 x2 x8 x9 x44 x45 v1 H1
theorem m_fieldfarelaw7_PoolLeasttttttttttthtbl_eq (K : AV → AH → Prop) (r0 : (AV × AV × AV × AV × AV × AV × AV) → AH → Prop) (a : TE) (H : AH) : codeP PP CC (subC (bodyC PP 7) [1, 1, 1, 1, 1, 1, 1, 1, 1, 1, 0, 1, 0, 0]) (m_fieldfarelaw7_PoolLeasttttttttttthtb_k K r0) a H = m_fieldfarelaw7_PoolLeasttttttttttthtbl K r0 (a 0) (a 1) (a 2) (a 8) (a 9) (a 44) (a 45) H :=
  have h1 : codeP PP CC (subC (bodyC PP 7) [1, 1, 1, 1, 1, 1, 1, 1, 1, 1, 0, 1, 0, 0]) (m_fieldfarelaw7_PoolLeasttttttttttthtb_k K r0) a H = codeP PP CC (subC (bodyC PP 7) [1, 1, 1, 1, 1, 1, 1, 1, 1, 1, 0, 1, 0, 0, 0]) (exP (codeP PP CC (subC (bodyC PP 7) [1, 1, 1, 1, 1, 1, 1, 1, 1, 1, 0, 1, 0, 0, 1]) (m_fieldfarelaw7_PoolLeasttttttttttthtb_k K r0)) (m_fieldfarelaw7_PoolLeasttttttttttthtb_k K r0)) a H := by kernel_rfl
  have h2 : codeP PP CC (subC (bodyC PP 7) [1, 1, 1, 1, 1, 1, 1, 1, 1, 1, 0, 1, 0, 0, 0]) (exP (codeP PP CC (subC (bodyC PP 7) [1, 1, 1, 1, 1, 1, 1, 1, 1, 1, 0, 1, 0, 0, 1]) (m_fieldfarelaw7_PoolLeasttttttttttthtb_k K r0)) (m_fieldfarelaw7_PoolLeasttttttttttthtb_k K r0)) a H = codeP PP CC (subC (bodyC PP 7) [1, 1, 1, 1, 1, 1, 1, 1, 1, 1, 0, 1, 0, 0, 0]) (exP (fun (a : TE) (H : AH) => m_fieldfarelaw7_PoolLeasttttttttttthtblt K r0 (a 0) (a 1) (a 2) (a 8) (a 9) (a 44) (a 45) (a 46) H) (m_fieldfarelaw7_PoolLeasttttttttttthtb_k K r0)) a H := congrArg (fun k : KE => codeP PP CC (subC (bodyC PP 7) [1, 1, 1, 1, 1, 1, 1, 1, 1, 1, 0, 1, 0, 0, 0]) (exP k (m_fieldfarelaw7_PoolLeasttttttttttthtb_k K r0)) a H) (funext fun a => funext fun H => m_fieldfarelaw7_PoolLeasttttttttttthtblt_eq K r0 a H)
  have h2b : codeP PP CC (subC (bodyC PP 7) [1, 1, 1, 1, 1, 1, 1, 1, 1, 1, 0, 1, 0, 0, 0]) (exP (fun (a : TE) (H : AH) => m_fieldfarelaw7_PoolLeasttttttttttthtblt K r0 (a 0) (a 1) (a 2) (a 8) (a 9) (a 44) (a 45) (a 46) H) (m_fieldfarelaw7_PoolLeasttttttttttthtb_k K r0)) a H = codeP PP CC (subC (bodyC PP 7) [1, 1, 1, 1, 1, 1, 1, 1, 1, 1, 0, 1, 0, 0, 0]) (m_fieldfarelaw7_PoolLeasttttttttttthtbl_k K r0) a H := by kernel_rfl
  have h3 : codeP PP CC (subC (bodyC PP 7) [1, 1, 1, 1, 1, 1, 1, 1, 1, 1, 0, 1, 0, 0, 0]) (m_fieldfarelaw7_PoolLeasttttttttttthtbl_k K r0) a H = m_fieldfarelaw7_PoolLeasttttttttttthtbl K r0 (a 0) (a 1) (a 2) (a 8) (a 9) (a 44) (a 45) H := by kernel_rfl
  ((h1.trans h2).trans h2b).trans h3
def m_fieldfarelaw7_PoolLeasttttttttttthtb (K : AV → AH → Prop) (x0 x1 x2 x8 x9 x44 x45 : AV) (H : AH) : Prop :=
  loopP (fun (r0 : (AV × AV × AV × AV × AV × AV × AV) → AH → Prop) (s : (AV × AV × AV × AV × AV × AV × AV)) (H : AH) => m_fieldfarelaw7_PoolLeasttttttttttthtbl K r0 s.1 s.2.1 s.2.2.1 s.2.2.2.1 s.2.2.2.2.1 s.2.2.2.2.2.1 s.2.2.2.2.2.2 H) (x0, x1, x2, x8, x9, x44, x45) H
theorem m_fieldfarelaw7_PoolLeasttttttttttthtb_eq (K : AV → AH → Prop) (a : TE) (H : AH) : codeP PP CC (subC (bodyC PP 7) [1, 1, 1, 1, 1, 1, 1, 1, 1, 1, 0, 1, 0]) (m_fieldfarelaw7_PoolLeastttttttttttht_k K) a H = m_fieldfarelaw7_PoolLeasttttttttttthtb K (a 0) (a 1) (a 2) (a 8) (a 9) (a 44) (a 45) H :=
  have h1 : codeP PP CC (subC (bodyC PP 7) [1, 1, 1, 1, 1, 1, 1, 1, 1, 1, 0, 1, 0]) (m_fieldfarelaw7_PoolLeastttttttttttht_k K) a H = loopP (fun (rec : KE) => codeP PP CC (subC (bodyC PP 7) [1, 1, 1, 1, 1, 1, 1, 1, 1, 1, 0, 1, 0, 0]) (exP rec (m_fieldfarelaw7_PoolLeastttttttttttht_k K))) a H := by kernel_rfl
  have h2 := loopP_iso (F := fun (rec : KE) => codeP PP CC (subC (bodyC PP 7) [1, 1, 1, 1, 1, 1, 1, 1, 1, 1, 0, 1, 0, 0]) (exP rec (m_fieldfarelaw7_PoolLeastttttttttttht_k K))) (S := (AV × AV × AV × AV × AV × AV × AV)) (fun a => (a 0, a 1, a 2, a 8, a 9, a 44, a 45)) (fun (r0 : (AV × AV × AV × AV × AV × AV × AV) → AH → Prop) (s : (AV × AV × AV × AV × AV × AV × AV)) (H : AH) => m_fieldfarelaw7_PoolLeasttttttttttthtbl K r0 s.1 s.2.1 s.2.2.1 s.2.2.2.1 s.2.2.2.2.1 s.2.2.2.2.2.1 s.2.2.2.2.2.2 H) (fun (r0 : (AV × AV × AV × AV × AV × AV × AV) → AH → Prop) (a : TE) (H : AH) => (show codeP PP CC (subC (bodyC PP 7) [1, 1, 1, 1, 1, 1, 1, 1, 1, 1, 0, 1, 0, 0]) (exP (fun (a : TE) (H : AH) => r0 (a 0, a 1, a 2, a 8, a 9, a 44, a 45) H) (m_fieldfarelaw7_PoolLeastttttttttttht_k K)) a H = codeP PP CC (subC (bodyC PP 7) [1, 1, 1, 1, 1, 1, 1, 1, 1, 1, 0, 1, 0, 0]) (m_fieldfarelaw7_PoolLeasttttttttttthtb_k K r0) a H from by kernel_rfl).trans (m_fieldfarelaw7_PoolLeasttttttttttthtbl_eq K r0 a H)) a H
  h1.trans h2
theorem m_fieldfarelaw7_PoolLeastttttttttttht_eq (K : AV → AH → Prop) (a : TE) (H : AH) : codeP PP CC (subC (bodyC PP 7) [1, 1, 1, 1, 1, 1, 1, 1, 1, 1, 0, 1]) (m_fieldfarelaw7_PoolLeasttttttttttt_k K) a H = m_fieldfarelaw7_PoolLeasttttttttttthtb K (a 0) (a 1) (a 2) (a 8) (a 9) (a 44) (a 45) H :=
  have h1 : codeP PP CC (subC (bodyC PP 7) [1, 1, 1, 1, 1, 1, 1, 1, 1, 1, 0, 1]) (m_fieldfarelaw7_PoolLeasttttttttttt_k K) a H = codeP PP CC (subC (bodyC PP 7) [1, 1, 1, 1, 1, 1, 1, 1, 1, 1, 0, 1, 0]) (m_fieldfarelaw7_PoolLeastttttttttttht_k K) a H := by kernel_rfl
  h1.trans (m_fieldfarelaw7_PoolLeasttttttttttthtb_eq K a H)
abbrev m_fieldfarelaw7_PoolLeasttttttttttth_k (K : AV → AH → Prop) : KP := exP (fun (a : TE) (H : AH) => m_fieldfarelaw7_PoolLeasttttttttttthtb K (a 0) (a 1) (a 2) (a 8) (a 9) (a 44) (a 45) H) (m_fieldfarelaw7_PoolLeasttttttttttt_k K)
def m_fieldfarelaw7_PoolLeasttttttttttth (K : AV → AH → Prop) (x0 x1 x2 x8 x9 : AV) (H : AH) : Prop :=
  outP CC H (w_len PP 33 H x9) fun v1 H1 =>
  m_fieldfarelaw7_PoolLeasttttttttttthtb K x0 x1 x2 x8 x9 v1 (.int .i64 0) H1
theorem m_fieldfarelaw7_PoolLeasttttttttttth_eq (K : AV → AH → Prop) (a : TE) (H : AH) : codeP PP CC (subC (bodyC PP 7) [1, 1, 1, 1, 1, 1, 1, 1, 1, 1, 0]) (m_fieldfarelaw7_PoolLeasttttttttttt_k K) a H = m_fieldfarelaw7_PoolLeasttttttttttth K (a 0) (a 1) (a 2) (a 8) (a 9) H :=
  have h1 : codeP PP CC (subC (bodyC PP 7) [1, 1, 1, 1, 1, 1, 1, 1, 1, 1, 0]) (m_fieldfarelaw7_PoolLeasttttttttttt_k K) a H = codeP PP CC (subC (bodyC PP 7) [1, 1, 1, 1, 1, 1, 1, 1, 1, 1, 0, 0]) (exP (codeP PP CC (subC (bodyC PP 7) [1, 1, 1, 1, 1, 1, 1, 1, 1, 1, 0, 1]) (m_fieldfarelaw7_PoolLeasttttttttttt_k K)) (m_fieldfarelaw7_PoolLeasttttttttttt_k K)) a H := by kernel_rfl
  have h2 : codeP PP CC (subC (bodyC PP 7) [1, 1, 1, 1, 1, 1, 1, 1, 1, 1, 0, 0]) (exP (codeP PP CC (subC (bodyC PP 7) [1, 1, 1, 1, 1, 1, 1, 1, 1, 1, 0, 1]) (m_fieldfarelaw7_PoolLeasttttttttttt_k K)) (m_fieldfarelaw7_PoolLeasttttttttttt_k K)) a H = codeP PP CC (subC (bodyC PP 7) [1, 1, 1, 1, 1, 1, 1, 1, 1, 1, 0, 0]) (exP (fun (a : TE) (H : AH) => m_fieldfarelaw7_PoolLeasttttttttttthtb K (a 0) (a 1) (a 2) (a 8) (a 9) (a 44) (a 45) H) (m_fieldfarelaw7_PoolLeasttttttttttt_k K)) a H := congrArg (fun k : KE => codeP PP CC (subC (bodyC PP 7) [1, 1, 1, 1, 1, 1, 1, 1, 1, 1, 0, 0]) (exP k (m_fieldfarelaw7_PoolLeasttttttttttt_k K)) a H) (funext fun a => funext fun H => m_fieldfarelaw7_PoolLeastttttttttttht_eq K a H)
  have h2b : codeP PP CC (subC (bodyC PP 7) [1, 1, 1, 1, 1, 1, 1, 1, 1, 1, 0, 0]) (exP (fun (a : TE) (H : AH) => m_fieldfarelaw7_PoolLeasttttttttttthtb K (a 0) (a 1) (a 2) (a 8) (a 9) (a 44) (a 45) H) (m_fieldfarelaw7_PoolLeasttttttttttt_k K)) a H = codeP PP CC (subC (bodyC PP 7) [1, 1, 1, 1, 1, 1, 1, 1, 1, 1, 0, 0]) (m_fieldfarelaw7_PoolLeasttttttttttth_k K) a H := by kernel_rfl
  have h3 : codeP PP CC (subC (bodyC PP 7) [1, 1, 1, 1, 1, 1, 1, 1, 1, 1, 0, 0]) (m_fieldfarelaw7_PoolLeasttttttttttth_k K) a H = m_fieldfarelaw7_PoolLeasttttttttttth K (a 0) (a 1) (a 2) (a 8) (a 9) H := by kernel_rfl
  ((h1.trans h2).trans h2b).trans h3
theorem m_fieldfarelaw7_PoolLeasttttttttttt_eq (K : AV → AH → Prop) (a : TE) (H : AH) : codeP PP CC (subC (bodyC PP 7) [1, 1, 1, 1, 1, 1, 1, 1, 1, 1]) (m_fieldfarelaw7_PoolLeast_K K) a H = m_fieldfarelaw7_PoolLeasttttttttttth K (a 0) (a 1) (a 2) (a 8) (a 9) H :=
  have h1 : codeP PP CC (subC (bodyC PP 7) [1, 1, 1, 1, 1, 1, 1, 1, 1, 1]) (m_fieldfarelaw7_PoolLeast_K K) a H = codeP PP CC (subC (bodyC PP 7) [1, 1, 1, 1, 1, 1, 1, 1, 1, 1, 0]) (m_fieldfarelaw7_PoolLeasttttttttttt_k K) a H := by kernel_rfl
  h1.trans (m_fieldfarelaw7_PoolLeasttttttttttth_eq K a H)
abbrev m_fieldfarelaw7_PoolLeastttttttttt_k (K : AV → AH → Prop) : KP := exP (fun (a : TE) (H : AH) => m_fieldfarelaw7_PoolLeasttttttttttth K (a 0) (a 1) (a 2) (a 8) (a 9) H) (m_fieldfarelaw7_PoolLeast_K K)
def m_fieldfarelaw7_PoolLeastttttttttt (K : AV → AH → Prop) (x0 x1 x2 x8 : AV) (H : AH) : Prop :=
  outP CC H (some (.enter 18 [x8, (.int .i64 3)])) fun v1 H1 =>
  m_fieldfarelaw7_PoolLeasttttttttttth K x0 x1 x2 x8 v1 H1
theorem m_fieldfarelaw7_PoolLeastttttttttt_eq (K : AV → AH → Prop) (a : TE) (H : AH) : codeP PP CC (subC (bodyC PP 7) [1, 1, 1, 1, 1, 1, 1, 1, 1]) (m_fieldfarelaw7_PoolLeast_K K) a H = m_fieldfarelaw7_PoolLeastttttttttt K (a 0) (a 1) (a 2) (a 8) H :=
  have h1 : codeP PP CC (subC (bodyC PP 7) [1, 1, 1, 1, 1, 1, 1, 1, 1]) (m_fieldfarelaw7_PoolLeast_K K) a H = codeP PP CC (subC (bodyC PP 7) [1, 1, 1, 1, 1, 1, 1, 1, 1, 0]) (exP (codeP PP CC (subC (bodyC PP 7) [1, 1, 1, 1, 1, 1, 1, 1, 1, 1]) (m_fieldfarelaw7_PoolLeast_K K)) (m_fieldfarelaw7_PoolLeast_K K)) a H := by kernel_rfl
  have h2 : codeP PP CC (subC (bodyC PP 7) [1, 1, 1, 1, 1, 1, 1, 1, 1, 0]) (exP (codeP PP CC (subC (bodyC PP 7) [1, 1, 1, 1, 1, 1, 1, 1, 1, 1]) (m_fieldfarelaw7_PoolLeast_K K)) (m_fieldfarelaw7_PoolLeast_K K)) a H = codeP PP CC (subC (bodyC PP 7) [1, 1, 1, 1, 1, 1, 1, 1, 1, 0]) (exP (fun (a : TE) (H : AH) => m_fieldfarelaw7_PoolLeasttttttttttth K (a 0) (a 1) (a 2) (a 8) (a 9) H) (m_fieldfarelaw7_PoolLeast_K K)) a H := congrArg (fun k : KE => codeP PP CC (subC (bodyC PP 7) [1, 1, 1, 1, 1, 1, 1, 1, 1, 0]) (exP k (m_fieldfarelaw7_PoolLeast_K K)) a H) (funext fun a => funext fun H => m_fieldfarelaw7_PoolLeasttttttttttt_eq K a H)
  have h2b : codeP PP CC (subC (bodyC PP 7) [1, 1, 1, 1, 1, 1, 1, 1, 1, 0]) (exP (fun (a : TE) (H : AH) => m_fieldfarelaw7_PoolLeasttttttttttth K (a 0) (a 1) (a 2) (a 8) (a 9) H) (m_fieldfarelaw7_PoolLeast_K K)) a H = codeP PP CC (subC (bodyC PP 7) [1, 1, 1, 1, 1, 1, 1, 1, 1, 0]) (m_fieldfarelaw7_PoolLeastttttttttt_k K) a H := by kernel_rfl
  have h3 : codeP PP CC (subC (bodyC PP 7) [1, 1, 1, 1, 1, 1, 1, 1, 1, 0]) (m_fieldfarelaw7_PoolLeastttttttttt_k K) a H = m_fieldfarelaw7_PoolLeastttttttttt K (a 0) (a 1) (a 2) (a 8) H := by kernel_rfl
  ((h1.trans h2).trans h2b).trans h3
abbrev m_fieldfarelaw7_PoolLeasttttttttt_k (K : AV → AH → Prop) : KP := exP (fun (a : TE) (H : AH) => m_fieldfarelaw7_PoolLeastttttttttt K (a 0) (a 1) (a 2) (a 8) H) (m_fieldfarelaw7_PoolLeast_K K)
def m_fieldfarelaw7_PoolLeasttttttttt (K : AV → AH → Prop) (x0 x1 x2 x8 : AV) (H : AH) : Prop :=
  outP CC H (some (.enter 14 [x8, (.int .i64 3), x2])) fun _v1 H1 =>
  m_fieldfarelaw7_PoolLeastttttttttt K x0 x1 x2 x8 H1
theorem m_fieldfarelaw7_PoolLeasttttttttt_eq (K : AV → AH → Prop) (a : TE) (H : AH) : codeP PP CC (subC (bodyC PP 7) [1, 1, 1, 1, 1, 1, 1, 1]) (m_fieldfarelaw7_PoolLeast_K K) a H = m_fieldfarelaw7_PoolLeasttttttttt K (a 0) (a 1) (a 2) (a 8) H :=
  have h1 : codeP PP CC (subC (bodyC PP 7) [1, 1, 1, 1, 1, 1, 1, 1]) (m_fieldfarelaw7_PoolLeast_K K) a H = codeP PP CC (subC (bodyC PP 7) [1, 1, 1, 1, 1, 1, 1, 1, 0]) (exP (codeP PP CC (subC (bodyC PP 7) [1, 1, 1, 1, 1, 1, 1, 1, 1]) (m_fieldfarelaw7_PoolLeast_K K)) (m_fieldfarelaw7_PoolLeast_K K)) a H := by kernel_rfl
  have h2 : codeP PP CC (subC (bodyC PP 7) [1, 1, 1, 1, 1, 1, 1, 1, 0]) (exP (codeP PP CC (subC (bodyC PP 7) [1, 1, 1, 1, 1, 1, 1, 1, 1]) (m_fieldfarelaw7_PoolLeast_K K)) (m_fieldfarelaw7_PoolLeast_K K)) a H = codeP PP CC (subC (bodyC PP 7) [1, 1, 1, 1, 1, 1, 1, 1, 0]) (exP (fun (a : TE) (H : AH) => m_fieldfarelaw7_PoolLeastttttttttt K (a 0) (a 1) (a 2) (a 8) H) (m_fieldfarelaw7_PoolLeast_K K)) a H := congrArg (fun k : KE => codeP PP CC (subC (bodyC PP 7) [1, 1, 1, 1, 1, 1, 1, 1, 0]) (exP k (m_fieldfarelaw7_PoolLeast_K K)) a H) (funext fun a => funext fun H => m_fieldfarelaw7_PoolLeastttttttttt_eq K a H)
  have h2b : codeP PP CC (subC (bodyC PP 7) [1, 1, 1, 1, 1, 1, 1, 1, 0]) (exP (fun (a : TE) (H : AH) => m_fieldfarelaw7_PoolLeastttttttttt K (a 0) (a 1) (a 2) (a 8) H) (m_fieldfarelaw7_PoolLeast_K K)) a H = codeP PP CC (subC (bodyC PP 7) [1, 1, 1, 1, 1, 1, 1, 1, 0]) (m_fieldfarelaw7_PoolLeasttttttttt_k K) a H := by kernel_rfl
  have h3 : codeP PP CC (subC (bodyC PP 7) [1, 1, 1, 1, 1, 1, 1, 1, 0]) (m_fieldfarelaw7_PoolLeasttttttttt_k K) a H = m_fieldfarelaw7_PoolLeasttttttttt K (a 0) (a 1) (a 2) (a 8) H := by kernel_rfl
  ((h1.trans h2).trans h2b).trans h3
abbrev m_fieldfarelaw7_PoolLeastttttttt_k (K : AV → AH → Prop) : KP := exP (fun (a : TE) (H : AH) => m_fieldfarelaw7_PoolLeasttttttttt K (a 0) (a 1) (a 2) (a 8) H) (m_fieldfarelaw7_PoolLeast_K K)
def m_fieldfarelaw7_PoolLeastttttttt (K : AV → AH → Prop) (x0 x1 x2 x8 : AV) (H : AH) : Prop :=
  outP CC H (w_int .quo H x0 (.int .i64 2)) fun v1 H1 =>
  outP CC H1 (some (.enter 14 [x8, (.int .i64 1), v1])) fun _v2 H2 =>
  m_fieldfarelaw7_PoolLeasttttttttt K x0 x1 x2 x8 H2
theorem m_fieldfarelaw7_PoolLeastttttttt_eq (K : AV → AH → Prop) (a : TE) (H : AH) : codeP PP CC (subC (bodyC PP 7) [1, 1, 1, 1, 1, 1, 1]) (m_fieldfarelaw7_PoolLeast_K K) a H = m_fieldfarelaw7_PoolLeastttttttt K (a 0) (a 1) (a 2) (a 8) H :=
  have h1 : codeP PP CC (subC (bodyC PP 7) [1, 1, 1, 1, 1, 1, 1]) (m_fieldfarelaw7_PoolLeast_K K) a H = codeP PP CC (subC (bodyC PP 7) [1, 1, 1, 1, 1, 1, 1, 0]) (exP (codeP PP CC (subC (bodyC PP 7) [1, 1, 1, 1, 1, 1, 1, 1]) (m_fieldfarelaw7_PoolLeast_K K)) (m_fieldfarelaw7_PoolLeast_K K)) a H := by kernel_rfl
  have h2 : codeP PP CC (subC (bodyC PP 7) [1, 1, 1, 1, 1, 1, 1, 0]) (exP (codeP PP CC (subC (bodyC PP 7) [1, 1, 1, 1, 1, 1, 1, 1]) (m_fieldfarelaw7_PoolLeast_K K)) (m_fieldfarelaw7_PoolLeast_K K)) a H = codeP PP CC (subC (bodyC PP 7) [1, 1, 1, 1, 1, 1, 1, 0]) (exP (fun (a : TE) (H : AH) => m_fieldfarelaw7_PoolLeasttttttttt K (a 0) (a 1) (a 2) (a 8) H) (m_fieldfarelaw7_PoolLeast_K K)) a H := congrArg (fun k : KE => codeP PP CC (subC (bodyC PP 7) [1, 1, 1, 1, 1, 1, 1, 0]) (exP k (m_fieldfarelaw7_PoolLeast_K K)) a H) (funext fun a => funext fun H => m_fieldfarelaw7_PoolLeasttttttttt_eq K a H)
  have h2b : codeP PP CC (subC (bodyC PP 7) [1, 1, 1, 1, 1, 1, 1, 0]) (exP (fun (a : TE) (H : AH) => m_fieldfarelaw7_PoolLeasttttttttt K (a 0) (a 1) (a 2) (a 8) H) (m_fieldfarelaw7_PoolLeast_K K)) a H = codeP PP CC (subC (bodyC PP 7) [1, 1, 1, 1, 1, 1, 1, 0]) (m_fieldfarelaw7_PoolLeastttttttt_k K) a H := by kernel_rfl
  have h3 : codeP PP CC (subC (bodyC PP 7) [1, 1, 1, 1, 1, 1, 1, 0]) (m_fieldfarelaw7_PoolLeastttttttt_k K) a H = m_fieldfarelaw7_PoolLeastttttttt K (a 0) (a 1) (a 2) (a 8) H := by kernel_rfl
  ((h1.trans h2).trans h2b).trans h3
abbrev m_fieldfarelaw7_PoolLeasttttttt_k (K : AV → AH → Prop) : KP := exP (fun (a : TE) (H : AH) => m_fieldfarelaw7_PoolLeastttttttt K (a 0) (a 1) (a 2) (a 8) H) (m_fieldfarelaw7_PoolLeast_K K)
def m_fieldfarelaw7_PoolLeasttttttt (K : AV → AH → Prop) (x0 x1 x2 x8 : AV) (H : AH) : Prop :=
  outP CC H (some (.enter 14 [x8, (.int .i64 2), x1])) fun _v1 H1 =>
  m_fieldfarelaw7_PoolLeastttttttt K x0 x1 x2 x8 H1
theorem m_fieldfarelaw7_PoolLeasttttttt_eq (K : AV → AH → Prop) (a : TE) (H : AH) : codeP PP CC (subC (bodyC PP 7) [1, 1, 1, 1, 1, 1]) (m_fieldfarelaw7_PoolLeast_K K) a H = m_fieldfarelaw7_PoolLeasttttttt K (a 0) (a 1) (a 2) (a 8) H :=
  have h1 : codeP PP CC (subC (bodyC PP 7) [1, 1, 1, 1, 1, 1]) (m_fieldfarelaw7_PoolLeast_K K) a H = codeP PP CC (subC (bodyC PP 7) [1, 1, 1, 1, 1, 1, 0]) (exP (codeP PP CC (subC (bodyC PP 7) [1, 1, 1, 1, 1, 1, 1]) (m_fieldfarelaw7_PoolLeast_K K)) (m_fieldfarelaw7_PoolLeast_K K)) a H := by kernel_rfl
  have h2 : codeP PP CC (subC (bodyC PP 7) [1, 1, 1, 1, 1, 1, 0]) (exP (codeP PP CC (subC (bodyC PP 7) [1, 1, 1, 1, 1, 1, 1]) (m_fieldfarelaw7_PoolLeast_K K)) (m_fieldfarelaw7_PoolLeast_K K)) a H = codeP PP CC (subC (bodyC PP 7) [1, 1, 1, 1, 1, 1, 0]) (exP (fun (a : TE) (H : AH) => m_fieldfarelaw7_PoolLeastttttttt K (a 0) (a 1) (a 2) (a 8) H) (m_fieldfarelaw7_PoolLeast_K K)) a H := congrArg (fun k : KE => codeP PP CC (subC (bodyC PP 7) [1, 1, 1, 1, 1, 1, 0]) (exP k (m_fieldfarelaw7_PoolLeast_K K)) a H) (funext fun a => funext fun H => m_fieldfarelaw7_PoolLeastttttttt_eq K a H)
  have h2b : codeP PP CC (subC (bodyC PP 7) [1, 1, 1, 1, 1, 1, 0]) (exP (fun (a : TE) (H : AH) => m_fieldfarelaw7_PoolLeastttttttt K (a 0) (a 1) (a 2) (a 8) H) (m_fieldfarelaw7_PoolLeast_K K)) a H = codeP PP CC (subC (bodyC PP 7) [1, 1, 1, 1, 1, 1, 0]) (m_fieldfarelaw7_PoolLeasttttttt_k K) a H := by kernel_rfl
  have h3 : codeP PP CC (subC (bodyC PP 7) [1, 1, 1, 1, 1, 1, 0]) (m_fieldfarelaw7_PoolLeasttttttt_k K) a H = m_fieldfarelaw7_PoolLeasttttttt K (a 0) (a 1) (a 2) (a 8) H := by kernel_rfl
  ((h1.trans h2).trans h2b).trans h3
abbrev m_fieldfarelaw7_PoolLeastttttt_k (K : AV → AH → Prop) : KP := exP (fun (a : TE) (H : AH) => m_fieldfarelaw7_PoolLeasttttttt K (a 0) (a 1) (a 2) (a 8) H) (m_fieldfarelaw7_PoolLeast_K K)
def m_fieldfarelaw7_PoolLeastttttt (K : AV → AH → Prop) (x0 x1 x2 x8 : AV) (H : AH) : Prop :=
  outP CC H (some (.enter 14 [x8, (.int .i64 1), x0])) fun _v1 H1 =>
  m_fieldfarelaw7_PoolLeasttttttt K x0 x1 x2 x8 H1
theorem m_fieldfarelaw7_PoolLeastttttt_eq (K : AV → AH → Prop) (a : TE) (H : AH) : codeP PP CC (subC (bodyC PP 7) [1, 1, 1, 1, 1]) (m_fieldfarelaw7_PoolLeast_K K) a H = m_fieldfarelaw7_PoolLeastttttt K (a 0) (a 1) (a 2) (a 8) H :=
  have h1 : codeP PP CC (subC (bodyC PP 7) [1, 1, 1, 1, 1]) (m_fieldfarelaw7_PoolLeast_K K) a H = codeP PP CC (subC (bodyC PP 7) [1, 1, 1, 1, 1, 0]) (exP (codeP PP CC (subC (bodyC PP 7) [1, 1, 1, 1, 1, 1]) (m_fieldfarelaw7_PoolLeast_K K)) (m_fieldfarelaw7_PoolLeast_K K)) a H := by kernel_rfl
  have h2 : codeP PP CC (subC (bodyC PP 7) [1, 1, 1, 1, 1, 0]) (exP (codeP PP CC (subC (bodyC PP 7) [1, 1, 1, 1, 1, 1]) (m_fieldfarelaw7_PoolLeast_K K)) (m_fieldfarelaw7_PoolLeast_K K)) a H = codeP PP CC (subC (bodyC PP 7) [1, 1, 1, 1, 1, 0]) (exP (fun (a : TE) (H : AH) => m_fieldfarelaw7_PoolLeasttttttt K (a 0) (a 1) (a 2) (a 8) H) (m_fieldfarelaw7_PoolLeast_K K)) a H := congrArg (fun k : KE => codeP PP CC (subC (bodyC PP 7) [1, 1, 1, 1, 1, 0]) (exP k (m_fieldfarelaw7_PoolLeast_K K)) a H) (funext fun a => funext fun H => m_fieldfarelaw7_PoolLeasttttttt_eq K a H)
  have h2b : codeP PP CC (subC (bodyC PP 7) [1, 1, 1, 1, 1, 0]) (exP (fun (a : TE) (H : AH) => m_fieldfarelaw7_PoolLeasttttttt K (a 0) (a 1) (a 2) (a 8) H) (m_fieldfarelaw7_PoolLeast_K K)) a H = codeP PP CC (subC (bodyC PP 7) [1, 1, 1, 1, 1, 0]) (m_fieldfarelaw7_PoolLeastttttt_k K) a H := by kernel_rfl
  have h3 : codeP PP CC (subC (bodyC PP 7) [1, 1, 1, 1, 1, 0]) (m_fieldfarelaw7_PoolLeastttttt_k K) a H = m_fieldfarelaw7_PoolLeastttttt K (a 0) (a 1) (a 2) (a 8) H := by kernel_rfl
  ((h1.trans h2).trans h2b).trans h3
abbrev m_fieldfarelaw7_PoolLeasttttt_k (K : AV → AH → Prop) : KP := exP (fun (a : TE) (H : AH) => m_fieldfarelaw7_PoolLeastttttt K (a 0) (a 1) (a 2) (a 8) H) (m_fieldfarelaw7_PoolLeast_K K)
def m_fieldfarelaw7_PoolLeasttttt (K : AV → AH → Prop) (x0 x1 x2 : AV) (H : AH) : Prop :=
  outP CC H (some (.enter 12 [(.int .i64 100)])) fun v1 H1 =>
  m_fieldfarelaw7_PoolLeastttttt K x0 x1 x2 v1 H1
theorem m_fieldfarelaw7_PoolLeasttttt_eq (K : AV → AH → Prop) (a : TE) (H : AH) : codeP PP CC (subC (bodyC PP 7) [1, 1, 1, 1]) (m_fieldfarelaw7_PoolLeast_K K) a H = m_fieldfarelaw7_PoolLeasttttt K (a 0) (a 1) (a 2) H :=
  have h1 : codeP PP CC (subC (bodyC PP 7) [1, 1, 1, 1]) (m_fieldfarelaw7_PoolLeast_K K) a H = codeP PP CC (subC (bodyC PP 7) [1, 1, 1, 1, 0]) (exP (codeP PP CC (subC (bodyC PP 7) [1, 1, 1, 1, 1]) (m_fieldfarelaw7_PoolLeast_K K)) (m_fieldfarelaw7_PoolLeast_K K)) a H := by kernel_rfl
  have h2 : codeP PP CC (subC (bodyC PP 7) [1, 1, 1, 1, 0]) (exP (codeP PP CC (subC (bodyC PP 7) [1, 1, 1, 1, 1]) (m_fieldfarelaw7_PoolLeast_K K)) (m_fieldfarelaw7_PoolLeast_K K)) a H = codeP PP CC (subC (bodyC PP 7) [1, 1, 1, 1, 0]) (exP (fun (a : TE) (H : AH) => m_fieldfarelaw7_PoolLeastttttt K (a 0) (a 1) (a 2) (a 8) H) (m_fieldfarelaw7_PoolLeast_K K)) a H := congrArg (fun k : KE => codeP PP CC (subC (bodyC PP 7) [1, 1, 1, 1, 0]) (exP k (m_fieldfarelaw7_PoolLeast_K K)) a H) (funext fun a => funext fun H => m_fieldfarelaw7_PoolLeastttttt_eq K a H)
  have h2b : codeP PP CC (subC (bodyC PP 7) [1, 1, 1, 1, 0]) (exP (fun (a : TE) (H : AH) => m_fieldfarelaw7_PoolLeastttttt K (a 0) (a 1) (a 2) (a 8) H) (m_fieldfarelaw7_PoolLeast_K K)) a H = codeP PP CC (subC (bodyC PP 7) [1, 1, 1, 1, 0]) (m_fieldfarelaw7_PoolLeasttttt_k K) a H := by kernel_rfl
  have h3 : codeP PP CC (subC (bodyC PP 7) [1, 1, 1, 1, 0]) (m_fieldfarelaw7_PoolLeasttttt_k K) a H = m_fieldfarelaw7_PoolLeasttttt K (a 0) (a 1) (a 2) H := by kernel_rfl
  ((h1.trans h2).trans h2b).trans h3
abbrev m_fieldfarelaw7_PoolLeastttt_k (K : AV → AH → Prop) : KP := exP (fun (a : TE) (H : AH) => m_fieldfarelaw7_PoolLeasttttt K (a 0) (a 1) (a 2) H) (m_fieldfarelaw7_PoolLeast_K K)
def m_fieldfarelaw7_PoolLeastttt (K : AV → AH → Prop) (x0 x1 x2 : AV) (H : AH) : Prop :=
  outP CC H (w_int .rem H x0 (.int .i64 20)) fun v1 H1 =>
  outP CC H1 (w_int .add H1 v1 (.int .i64 20)) fun v2 H2 =>
  outP CC H2 (w_int .rem H2 v2 (.int .i64 20)) fun v3 H3 =>
  outP CC H3 (w_int .rem H3 x1 (.int .i64 20)) fun v4 H4 =>
  outP CC H4 (w_int .add H4 v4 (.int .i64 20)) fun v5 H5 =>
  outP CC H5 (w_int .rem H5 v5 (.int .i64 20)) fun v6 H6 =>
  outP CC H6 (w_int .rem H6 x2 (.int .i64 20)) fun v7 H7 =>
  outP CC H7 (w_int .add H7 v7 (.int .i64 20)) fun v8 H8 =>
  outP CC H8 (w_int .rem H8 v8 (.int .i64 20)) fun v9 H9 =>
  m_fieldfarelaw7_PoolLeasttttt K v3 v6 v9 H9
theorem m_fieldfarelaw7_PoolLeastttt_eq (K : AV → AH → Prop) (a : TE) (H : AH) : codeP PP CC (subC (bodyC PP 7) [1, 1, 1]) (m_fieldfarelaw7_PoolLeast_K K) a H = m_fieldfarelaw7_PoolLeastttt K (a 0) (a 1) (a 2) H :=
  have h1 : codeP PP CC (subC (bodyC PP 7) [1, 1, 1]) (m_fieldfarelaw7_PoolLeast_K K) a H = codeP PP CC (subC (bodyC PP 7) [1, 1, 1, 0]) (exP (codeP PP CC (subC (bodyC PP 7) [1, 1, 1, 1]) (m_fieldfarelaw7_PoolLeast_K K)) (m_fieldfarelaw7_PoolLeast_K K)) a H := by kernel_rfl
  have h2 : codeP PP CC (subC (bodyC PP 7) [1, 1, 1, 0]) (exP (codeP PP CC (subC (bodyC PP 7) [1, 1, 1, 1]) (m_fieldfarelaw7_PoolLeast_K K)) (m_fieldfarelaw7_PoolLeast_K K)) a H = codeP PP CC (subC (bodyC PP 7) [1, 1, 1, 0]) (exP (fun (a : TE) (H : AH) => m_fieldfarelaw7_PoolLeasttttt K (a 0) (a 1) (a 2) H) (m_fieldfarelaw7_PoolLeast_K K)) a H := congrArg (fun k : KE => codeP PP CC (subC (bodyC PP 7) [1, 1, 1, 0]) (exP k (m_fieldfarelaw7_PoolLeast_K K)) a H) (funext fun a => funext fun H => m_fieldfarelaw7_PoolLeasttttt_eq K a H)
  have h2b : codeP PP CC (subC (bodyC PP 7) [1, 1, 1, 0]) (exP (fun (a : TE) (H : AH) => m_fieldfarelaw7_PoolLeasttttt K (a 0) (a 1) (a 2) H) (m_fieldfarelaw7_PoolLeast_K K)) a H = codeP PP CC (subC (bodyC PP 7) [1, 1, 1, 0]) (m_fieldfarelaw7_PoolLeastttt_k K) a H := by kernel_rfl
  have h3 : codeP PP CC (subC (bodyC PP 7) [1, 1, 1, 0]) (m_fieldfarelaw7_PoolLeastttt_k K) a H = m_fieldfarelaw7_PoolLeastttt K (a 0) (a 1) (a 2) H := by kernel_rfl
  ((h1.trans h2).trans h2b).trans h3
abbrev m_fieldfarelaw7_PoolLeasttt_k (K : AV → AH → Prop) : KP := exP (fun (a : TE) (H : AH) => m_fieldfarelaw7_PoolLeastttt K (a 0) (a 1) (a 2) H) (m_fieldfarelaw7_PoolLeast_K K)
def m_fieldfarelaw7_PoolLeasttt (K : AV → AH → Prop) (x0 x1 x2 x7 : AV) (H : AH) : Prop :=
  outP CC H (w_un .not H x7) fun v1 H1 =>
  condP v1
  (K (.bool false) H1)
  (m_fieldfarelaw7_PoolLeastttt K x0 x1 x2 H1)
theorem m_fieldfarelaw7_PoolLeasttt_eq (K : AV → AH → Prop) (a : TE) (H : AH) : codeP PP CC (subC (bodyC PP 7) [1, 1]) (m_fieldfarelaw7_PoolLeast_K K) a H = m_fieldfarelaw7_PoolLeasttt K (a 0) (a 1) (a 2) (a 7) H :=
  have h1 : codeP PP CC (subC (bodyC PP 7) [1, 1]) (m_fieldfarelaw7_PoolLeast_K K) a H = codeP PP CC (subC (bodyC PP 7) [1, 1, 0]) (exP (codeP PP CC (subC (bodyC PP 7) [1, 1, 1]) (m_fieldfarelaw7_PoolLeast_K K)) (m_fieldfarelaw7_PoolLeast_K K)) a H := by kernel_rfl
  have h2 : codeP PP CC (subC (bodyC PP 7) [1, 1, 0]) (exP (codeP PP CC (subC (bodyC PP 7) [1, 1, 1]) (m_fieldfarelaw7_PoolLeast_K K)) (m_fieldfarelaw7_PoolLeast_K K)) a H = codeP PP CC (subC (bodyC PP 7) [1, 1, 0]) (exP (fun (a : TE) (H : AH) => m_fieldfarelaw7_PoolLeastttt K (a 0) (a 1) (a 2) H) (m_fieldfarelaw7_PoolLeast_K K)) a H := congrArg (fun k : KE => codeP PP CC (subC (bodyC PP 7) [1, 1, 0]) (exP k (m_fieldfarelaw7_PoolLeast_K K)) a H) (funext fun a => funext fun H => m_fieldfarelaw7_PoolLeastttt_eq K a H)
  have h2b : codeP PP CC (subC (bodyC PP 7) [1, 1, 0]) (exP (fun (a : TE) (H : AH) => m_fieldfarelaw7_PoolLeastttt K (a 0) (a 1) (a 2) H) (m_fieldfarelaw7_PoolLeast_K K)) a H = codeP PP CC (subC (bodyC PP 7) [1, 1, 0]) (m_fieldfarelaw7_PoolLeasttt_k K) a H := by kernel_rfl
  have h3 : codeP PP CC (subC (bodyC PP 7) [1, 1, 0]) (m_fieldfarelaw7_PoolLeasttt_k K) a H = m_fieldfarelaw7_PoolLeasttt K (a 0) (a 1) (a 2) (a 7) H := by kernel_rfl
  ((h1.trans h2).trans h2b).trans h3
abbrev m_fieldfarelaw7_PoolLeastt_k (K : AV → AH → Prop) : KP := exP (fun (a : TE) (H : AH) => m_fieldfarelaw7_PoolLeasttt K (a 0) (a 1) (a 2) (a 7) H) (m_fieldfarelaw7_PoolLeast_K K)
def m_fieldfarelaw7_PoolLeastt (K : AV → AH → Prop) (x0 x1 x2 : AV) (H : AH) : Prop :=
  outP CC H (some (.enter 11 [])) fun v1 H1 =>
  m_fieldfarelaw7_PoolLeasttt K x0 x1 x2 v1 H1
theorem m_fieldfarelaw7_PoolLeastt_eq (K : AV → AH → Prop) (a : TE) (H : AH) : codeP PP CC (subC (bodyC PP 7) [1]) (m_fieldfarelaw7_PoolLeast_K K) a H = m_fieldfarelaw7_PoolLeastt K (a 0) (a 1) (a 2) H :=
  have h1 : codeP PP CC (subC (bodyC PP 7) [1]) (m_fieldfarelaw7_PoolLeast_K K) a H = codeP PP CC (subC (bodyC PP 7) [1, 0]) (exP (codeP PP CC (subC (bodyC PP 7) [1, 1]) (m_fieldfarelaw7_PoolLeast_K K)) (m_fieldfarelaw7_PoolLeast_K K)) a H := by kernel_rfl
  have h2 : codeP PP CC (subC (bodyC PP 7) [1, 0]) (exP (codeP PP CC (subC (bodyC PP 7) [1, 1]) (m_fieldfarelaw7_PoolLeast_K K)) (m_fieldfarelaw7_PoolLeast_K K)) a H = codeP PP CC (subC (bodyC PP 7) [1, 0]) (exP (fun (a : TE) (H : AH) => m_fieldfarelaw7_PoolLeasttt K (a 0) (a 1) (a 2) (a 7) H) (m_fieldfarelaw7_PoolLeast_K K)) a H := congrArg (fun k : KE => codeP PP CC (subC (bodyC PP 7) [1, 0]) (exP k (m_fieldfarelaw7_PoolLeast_K K)) a H) (funext fun a => funext fun H => m_fieldfarelaw7_PoolLeasttt_eq K a H)
  have h2b : codeP PP CC (subC (bodyC PP 7) [1, 0]) (exP (fun (a : TE) (H : AH) => m_fieldfarelaw7_PoolLeasttt K (a 0) (a 1) (a 2) (a 7) H) (m_fieldfarelaw7_PoolLeast_K K)) a H = codeP PP CC (subC (bodyC PP 7) [1, 0]) (m_fieldfarelaw7_PoolLeastt_k K) a H := by kernel_rfl
  have h3 : codeP PP CC (subC (bodyC PP 7) [1, 0]) (m_fieldfarelaw7_PoolLeastt_k K) a H = m_fieldfarelaw7_PoolLeastt K (a 0) (a 1) (a 2) H := by kernel_rfl
  ((h1.trans h2).trans h2b).trans h3
abbrev m_fieldfarelaw7_PoolLeast_k (K : AV → AH → Prop) : KP := exP (fun (a : TE) (H : AH) => m_fieldfarelaw7_PoolLeastt K (a 0) (a 1) (a 2) H) (m_fieldfarelaw7_PoolLeast_K K)
def m_fieldfarelaw7_PoolLeast (K : AV → AH → Prop) (x0 x1 x2 : AV) (H : AH) : Prop :=
  m_fieldfarelaw7_PoolLeastt K x0 x1 x2 H
theorem m_fieldfarelaw7_PoolLeast_eq (K : AV → AH → Prop) (a : TE) (H : AH) : codeP PP CC (subC (bodyC PP 7) []) (m_fieldfarelaw7_PoolLeast_K K) a H = m_fieldfarelaw7_PoolLeast K (a 0) (a 1) (a 2) H :=
  have h1 : codeP PP CC (subC (bodyC PP 7) []) (m_fieldfarelaw7_PoolLeast_K K) a H = codeP PP CC (subC (bodyC PP 7) [0]) (exP (codeP PP CC (subC (bodyC PP 7) [1]) (m_fieldfarelaw7_PoolLeast_K K)) (m_fieldfarelaw7_PoolLeast_K K)) a H := by kernel_rfl
  have h2 : codeP PP CC (subC (bodyC PP 7) [0]) (exP (codeP PP CC (subC (bodyC PP 7) [1]) (m_fieldfarelaw7_PoolLeast_K K)) (m_fieldfarelaw7_PoolLeast_K K)) a H = codeP PP CC (subC (bodyC PP 7) [0]) (exP (fun (a : TE) (H : AH) => m_fieldfarelaw7_PoolLeastt K (a 0) (a 1) (a 2) H) (m_fieldfarelaw7_PoolLeast_K K)) a H := congrArg (fun k : KE => codeP PP CC (subC (bodyC PP 7) [0]) (exP k (m_fieldfarelaw7_PoolLeast_K K)) a H) (funext fun a => funext fun H => m_fieldfarelaw7_PoolLeastt_eq K a H)
  have h2b : codeP PP CC (subC (bodyC PP 7) [0]) (exP (fun (a : TE) (H : AH) => m_fieldfarelaw7_PoolLeastt K (a 0) (a 1) (a 2) H) (m_fieldfarelaw7_PoolLeast_K K)) a H = codeP PP CC (subC (bodyC PP 7) [0]) (m_fieldfarelaw7_PoolLeast_k K) a H := by kernel_rfl
  have h3 : codeP PP CC (subC (bodyC PP 7) [0]) (m_fieldfarelaw7_PoolLeast_k K) a H = m_fieldfarelaw7_PoolLeast K (a 0) (a 1) (a 2) H := by kernel_rfl
  ((h1.trans h2).trans h2b).trans h3
theorem m_fieldfarelaw7_PoolLeast_ok (x0 x1 x2 : AV) (H : AH) (K : AV → AH → Prop) (h : m_fieldfarelaw7_PoolLeast K x0 x1 x2 H) : CC.call 7 [x0, x1, x2] H K :=
  have h1 : funP PP CC 7 [x0, x1, x2] H K = codeP PP CC (subC (bodyC PP 7) []) (m_fieldfarelaw7_PoolLeast_K K) (argE [x0, x1, x2]) H := by kernel_rfl
  have h2 : m_fieldfarelaw7_PoolLeast K (argE [x0, x1, x2] 0) (argE [x0, x1, x2] 1) (argE [x0, x1, x2] 2) H = m_fieldfarelaw7_PoolLeast K x0 x1 x2 H := by kernel_rfl
  funP_ok (P := PP) (by kernel_rfl) (by kernel_rfl) ((h1.trans ((m_fieldfarelaw7_PoolLeast_eq K (argE [x0, x1, x2]) H).trans h2)).mpr h)

end
end Go.Ab
