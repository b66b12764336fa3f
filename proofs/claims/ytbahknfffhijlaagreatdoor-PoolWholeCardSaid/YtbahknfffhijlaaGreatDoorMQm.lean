/- What functions do, said as what the evaluator does. Printed by a program. -/
import Derived.Test.YtbahknfffhijlaaGreatDoorBeg
import Derived.Test.YtbahknfffhijlaaGreatDoorEv3
namespace Go.Ab
noncomputable section
open Go.Proofs
set_option maxRecDepth 100000



/-! 17: fieldfare/quant.Make -/
abbrev m_quant_Make_K (K : AV → AH → Prop) : KP := finP PP (resC PP 17) K
abbrev m_quant_Maketttt_k (K : AV → AH → Prop) : KP := exP (codeP PP CC (subC (bodyC PP 17) [1, 1, 1, 1, 1]) (m_quant_Make_K K)) (m_quant_Make_K K)
abbrev m_quant_Makettttht_k (K : AV → AH → Prop) : KP := blockP 0 (m_quant_Maketttt_k K)
abbrev m_quant_Maketttthtb_k (K : AV → AH → Prop) (r0 : (AV × AV × AV × AV × AV) → AH → Prop) : KP := exP (fun (a : TE) (H : AH) => r0 (a 1, a 4, a 5, a 27, a 28) H) (m_quant_Makettttht_k K)
abbrev m_quant_Maketttthtbltt_k (K : AV → AH → Prop) (r0 : (AV × AV × AV × AV × AV) → AH → Prop) : KP := exP (codeP PP CC (subC (bodyC PP 17) [1, 1, 1, 1, 0, 1, 0, 0, 1, 1, 1]) (m_quant_Maketttthtb_k K r0)) (m_quant_Maketttthtb_k K r0)
abbrev m_quant_Maketttthtbltth_k (K : AV → AH → Prop) (r0 : (AV × AV × AV × AV × AV) → AH → Prop) : KP := blockP 1 (m_quant_Maketttthtbltt_k K r0)
abbrev m_quant_Maketttthtbltthbtt_k (K : AV → AH → Prop) (r0 : (AV × AV × AV × AV × AV) → AH → Prop) : KP := exP (codeP PP CC (subC (bodyC PP 17) [1, 1, 1, 1, 0, 1, 0, 0, 1, 1, 0, 0, 1, 1, 1]) (m_quant_Maketttthtbltth_k K r0)) (m_quant_Maketttthtbltth_k K r0)
abbrev m_quant_Maketttthtbltthbttht_k (K : AV → AH → Prop) (r0 : (AV × AV × AV × AV × AV) → AH → Prop) : KP := blockP 2 (m_quant_Maketttthtbltthbtt_k K r0)
abbrev m_quant_Maketttthtbltthbtthtb_k (K : AV → AH → Prop) (r0 : (AV × AV × AV × AV × AV) → AH → Prop) (r1 : (AV × AV × AV × AV × AV × AV × AV × AV × AV × AV × AV) → AH → Prop) : KP := exP (fun (a : TE) (H : AH) => r1 (a 1, a 4, a 5, a 6, a 7, a 8, a 27, a 28, a 31, a 32, a 33) H) (m_quant_Maketttthtbltthbttht_k K r0)
abbrev m_quant_Maketttthtbltthbtthtbltt_k (K : AV → AH → Prop) (r0 : (AV × AV × AV × AV × AV) → AH → Prop) (r1 : (AV × AV × AV × AV × AV × AV × AV × AV × AV × AV × AV) → AH → Prop) : KP := exP (codeP PP CC (subC (bodyC PP 17) [1, 1, 1, 1, 0, 1, 0, 0, 1, 1, 0, 0, 1, 1, 0, 1, 0, 0, 1, 1, 1]) (m_quant_Maketttthtbltthbtthtb_k K r0 r1)) (m_quant_Maketttthtbltthbtthtb_k K r0 r1)
abbrev m_quant_Maketttthtbltthbtthtbltth_k (K : AV → AH → Prop) (r0 : (AV × AV × AV × AV × AV) → AH → Prop) (r1 : (AV × AV × AV × AV × AV × AV × AV × AV × AV × AV × AV) → AH → Prop) : KP := blockP 3 (m_quant_Maketttthtbltthbtthtbltt_k K r0 r1)
def m_quant_Maketttthtbltthbtthtbltthbtt (_K : AV → AH → Prop) (_r0 : (AV × AV × AV × AV × AV) → AH → Prop) (r1 : (AV × AV × AV × AV × AV × AV × AV × AV × AV × AV × AV) → AH → Prop) (x1 x4 x5 x6 x7 x8 x10 x27 x28 x31 x32 x33 : AV) (H : AH) : Prop :=
  outP CC H (w_indexAddr (.sl 1) H x10 x6) fun v1 H1 =>
  outP CC H1 (w_load none H1 v1) fun v2 H2 =>
  outP CC H2 (w_min2 H2 x7 v2) fun v3 H3 =>
  outP CC H3 (w_indexAddr (.sl 1) H3 x10 x6) fun v4 H4 =>
  outP CC H4 (w_load none H4 v4) fun v5 H5 =>
  outP CC H5 (w_max2 H5 x8 v5) fun v6 H6 =>
  outP CC H6 (w_int .add H6 x33 (.int .i64 1)) fun v7 H7 =>
  r1 (x1, x4, x5, x6, v3, v6, x27, x28, x31, x32, v7) H7
theorem m_quant_Maketttthtbltthbtthtbltthbtt_eq (K : AV → AH → Prop) (r0 : (AV × AV × AV × AV × AV) → AH → Prop) (r1 : (AV × AV × AV × AV × AV × AV × AV × AV × AV × AV × AV) → AH → Prop) (a : TE) (H : AH) : codeP PP CC (subC (bodyC PP 17) [1, 1, 1, 1, 0, 1, 0, 0, 1, 1, 0, 0, 1, 1, 0, 1, 0, 0, 1, 1, 0, 0, 1, 1]) (m_quant_Maketttthtbltthbtthtbltth_k K r0 r1) a H = m_quant_Maketttthtbltthbtthtbltthbtt K r0 r1 (a 1) (a 4) (a 5) (a 6) (a 7) (a 8) (a 10) (a 27) (a 28) (a 31) (a 32) (a 33) H :=
  by kernel_rfl
abbrev m_quant_Maketttthtbltthbtthtbltthbt_k (K : AV → AH → Prop) (r0 : (AV × AV × AV × AV × AV) → AH → Prop) (r1 : (AV × AV × AV × AV × AV × AV × AV × AV × AV × AV × AV) → AH → Prop) : KP := exP (fun (a : TE) (H : AH) => m_quant_Maketttthtbltthbtthtbltthbtt K r0 r1 (a 1) (a 4) (a 5) (a 6) (a 7) (a 8) (a 10) (a 27) (a 28) (a 31) (a 32) (a 33) H) (m_quant_Maketttthtbltthbtthtbltth_k K r0 r1)
def m_quant_Maketttthtbltthbtthtbltthbt (K : AV → AH → Prop) (r0 : (AV × AV × AV × AV × AV) → AH → Prop) (r1 : (AV × AV × AV × AV × AV × AV × AV × AV × AV × AV × AV) → AH → Prop) (x1 x4 x5 x6 x7 x8 x9 x10 x27 x28 x31 x32 x33 : AV) (H : AH) : Prop :=
  outP CC H (w_int .eql H x9 (.int .i64 0)) fun v1 H1 =>
  condP v1
  (outP CC H1 (w_indexAddr (.sl 1) H1 x10 x6) fun v2 H2 =>
  outP CC H2 (w_load none H2 v2) fun v3 H3 =>
  outP CC H3 (w_indexAddr (.sl 1) H3 x10 x6) fun v4 H4 =>
  outP CC H4 (w_load none H4 v4) fun v5 H5 =>
  m_quant_Maketttthtbltthbtthtbltthbtt K r0 r1 x1 x4 x5 x6 v3 v5 x10 x27 x28 x31 x32 x33 H5)
  (m_quant_Maketttthtbltthbtthtbltthbtt K r0 r1 x1 x4 x5 x6 x7 x8 x10 x27 x28 x31 x32 x33 H1)
theorem m_quant_Maketttthtbltthbtthtbltthbt_eq (K : AV → AH → Prop) (r0 : (AV × AV × AV × AV × AV) → AH → Prop) (r1 : (AV × AV × AV × AV × AV × AV × AV × AV × AV × AV × AV) → AH → Prop) (a : TE) (H : AH) : codeP PP CC (subC (bodyC PP 17) [1, 1, 1, 1, 0, 1, 0, 0, 1, 1, 0, 0, 1, 1, 0, 1, 0, 0, 1, 1, 0, 0, 1]) (m_quant_Maketttthtbltthbtthtbltth_k K r0 r1) a H = m_quant_Maketttthtbltthbtthtbltthbt K r0 r1 (a 1) (a 4) (a 5) (a 6) (a 7) (a 8) (a 9) (a 10) (a 27) (a 28) (a 31) (a 32) (a 33) H :=
  have h1 : codeP PP CC (subC (bodyC PP 17) [1, 1, 1, 1, 0, 1, 0, 0, 1, 1, 0, 0, 1, 1, 0, 1, 0, 0, 1, 1, 0, 0, 1]) (m_quant_Maketttthtbltthbtthtbltth_k K r0 r1) a H = codeP PP CC (subC (bodyC PP 17) [1, 1, 1, 1, 0, 1, 0, 0, 1, 1, 0, 0, 1, 1, 0, 1, 0, 0, 1, 1, 0, 0, 1, 0]) (exP (codeP PP CC (subC (bodyC PP 17) [1, 1, 1, 1, 0, 1, 0, 0, 1, 1, 0, 0, 1, 1, 0, 1, 0, 0, 1, 1, 0, 0, 1, 1]) (m_quant_Maketttthtbltthbtthtbltth_k K r0 r1)) (m_quant_Maketttthtbltthbtthtbltth_k K r0 r1)) a H := by kernel_rfl
  have h2 : codeP PP CC (subC (bodyC PP 17) [1, 1, 1, 1, 0, 1, 0, 0, 1, 1, 0, 0, 1, 1, 0, 1, 0, 0, 1, 1, 0, 0, 1, 0]) (exP (codeP PP CC (subC (bodyC PP 17) [1, 1, 1, 1, 0, 1, 0, 0, 1, 1, 0, 0, 1, 1, 0, 1, 0, 0, 1, 1, 0, 0, 1, 1]) (m_quant_Maketttthtbltthbtthtbltth_k K r0 r1)) (m_quant_Maketttthtbltthbtthtbltth_k K r0 r1)) a H = codeP PP CC (subC (bodyC PP 17) [1, 1, 1, 1, 0, 1, 0, 0, 1, 1, 0, 0, 1, 1, 0, 1, 0, 0, 1, 1, 0, 0, 1, 0]) (exP (fun (a : TE) (H : AH) => m_quant_Maketttthtbltthbtthtbltthbtt K r0 r1 (a 1) (a 4) (a 5) (a 6) (a 7) (a 8) (a 10) (a 27) (a 28) (a 31) (a 32) (a 33) H) (m_quant_Maketttthtbltthbtthtbltth_k K r0 r1)) a H := congrArg (fun k : KE => codeP PP CC (subC (bodyC PP 17) [1, 1, 1, 1, 0, 1, 0, 0, 1, 1, 0, 0, 1, 1, 0, 1, 0, 0, 1, 1, 0, 0, 1, 0]) (exP k (m_quant_Maketttthtbltthbtthtbltth_k K r0 r1)) a H) (funext fun a => funext fun H => m_quant_Maketttthtbltthbtthtbltthbtt_eq K r0 r1 a H)
  have h2b : codeP PP CC (subC (bodyC PP 17) [1, 1, 1, 1, 0, 1, 0, 0, 1, 1, 0, 0, 1, 1, 0, 1, 0, 0, 1, 1, 0, 0, 1, 0]) (exP (fun (a : TE) (H : AH) => m_quant_Maketttthtbltthbtthtbltthbtt K r0 r1 (a 1) (a 4) (a 5) (a 6) (a 7) (a 8) (a 10) (a 27) (a 28) (a 31) (a 32) (a 33) H) (m_quant_Maketttthtbltthbtthtbltth_k K r0 r1)) a H = codeP PP CC (subC (bodyC PP 17) [1, 1, 1, 1, 0, 1, 0, 0, 1, 1, 0, 0, 1, 1, 0, 1, 0, 0, 1, 1, 0, 0, 1, 0]) (m_quant_Maketttthtbltthbtthtbltthbt_k K r0 r1) a H := by kernel_rfl
  have h3 : codeP PP CC (subC (bodyC PP 17) [1, 1, 1, 1, 0, 1, 0, 0, 1, 1, 0, 0, 1, 1, 0, 1, 0, 0, 1, 1, 0, 0, 1, 0]) (m_quant_Maketttthtbltthbtthtbltthbt_k K r0 r1) a H = m_quant_Maketttthtbltthbtthtbltthbt K r0 r1 (a 1) (a 4) (a 5) (a 6) (a 7) (a 8) (a 9) (a 10) (a 27) (a 28) (a 31) (a 32) (a 33) H := by kernel_rfl
  ((h1.trans h2).trans h2b).trans h3
abbrev m_quant_Maketttthtbltthbtthtbltthb_k (K : AV → AH → Prop) (r0 : (AV × AV × AV × AV × AV) → AH → Prop) (r1 : (AV × AV × AV × AV × AV × AV × AV × AV × AV × AV × AV) → AH → Prop) : KP := exP (fun (a : TE) (H : AH) => m_quant_Maketttthtbltthbtthtbltthbt K r0 r1 (a 1) (a 4) (a 5) (a 6) (a 7) (a 8) (a 9) (a 10) (a 27) (a 28) (a 31) (a 32) (a 33) H) (m_quant_Maketttthtbltthbtthtbltth_k K r0 r1)
def m_quant_Maketttthtbltthbtthtbltthb (K : AV → AH → Prop) (r0 : (AV × AV × AV × AV × AV) → AH → Prop) (r1 : (AV × AV × AV × AV × AV × AV × AV × AV × AV × AV × AV) → AH → Prop) (x1 x4 x5 x6 x7 x8 x27 x28 x31 x32 x33 : AV) (H : AH) : Prop :=
  outP CC H (w_indexAddr (.sl 1) H x31 x33) fun v1 H1 =>
  outP CC H1 (w_load none H1 v1) fun v2 H2 =>
  m_quant_Maketttthtbltthbtthtbltthbt K r0 r1 x1 x4 x5 x6 x7 x8 x33 v2 x27 x28 x31 x32 x33 H2
theorem m_quant_Maketttthtbltthbtthtbltthb_eq (K : AV → AH → Prop) (r0 : (AV × AV × AV × AV × AV) → AH → Prop) (r1 : (AV × AV × AV × AV × AV × AV × AV × AV × AV × AV × AV) → AH → Prop) (a : TE) (H : AH) : codeP PP CC (subC (bodyC PP 17) [1, 1, 1, 1, 0, 1, 0, 0, 1, 1, 0, 0, 1, 1, 0, 1, 0, 0, 1, 1, 0, 0]) (m_quant_Maketttthtbltthbtthtbltth_k K r0 r1) a H = m_quant_Maketttthtbltthbtthtbltthb K r0 r1 (a 1) (a 4) (a 5) (a 6) (a 7) (a 8) (a 27) (a 28) (a 31) (a 32) (a 33) H :=
  have h1 : codeP PP CC (subC (bodyC PP 17) [1, 1, 1, 1, 0, 1, 0, 0, 1, 1, 0, 0, 1, 1, 0, 1, 0, 0, 1, 1, 0, 0]) (m_quant_Maketttthtbltthbtthtbltth_k K r0 r1) a H = codeP PP CC (subC (bodyC PP 17) [1, 1, 1, 1, 0, 1, 0, 0, 1, 1, 0, 0, 1, 1, 0, 1, 0, 0, 1, 1, 0, 0, 0]) (exP (codeP PP CC (subC (bodyC PP 17) [1, 1, 1, 1, 0, 1, 0, 0, 1, 1, 0, 0, 1, 1, 0, 1, 0, 0, 1, 1, 0, 0, 1]) (m_quant_Maketttthtbltthbtthtbltth_k K r0 r1)) (m_quant_Maketttthtbltthbtthtbltth_k K r0 r1)) a H := by kernel_rfl
  have h2 : codeP PP CC (subC (bodyC PP 17) [1, 1, 1, 1, 0, 1, 0, 0, 1, 1, 0, 0, 1, 1, 0, 1, 0, 0, 1, 1, 0, 0, 0]) (exP (codeP PP CC (subC (bodyC PP 17) [1, 1, 1, 1, 0, 1, 0, 0, 1, 1, 0, 0, 1, 1, 0, 1, 0, 0, 1, 1, 0, 0, 1]) (m_quant_Maketttthtbltthbtthtbltth_k K r0 r1)) (m_quant_Maketttthtbltthbtthtbltth_k K r0 r1)) a H = codeP PP CC (subC (bodyC PP 17) [1, 1, 1, 1, 0, 1, 0, 0, 1, 1, 0, 0, 1, 1, 0, 1, 0, 0, 1, 1, 0, 0, 0]) (exP (fun (a : TE) (H : AH) => m_quant_Maketttthtbltthbtthtbltthbt K r0 r1 (a 1) (a 4) (a 5) (a 6) (a 7) (a 8) (a 9) (a 10) (a 27) (a 28) (a 31) (a 32) (a 33) H) (m_quant_Maketttthtbltthbtthtbltth_k K r0 r1)) a H := congrArg (fun k : KE => codeP PP CC (subC (bodyC PP 17) [1, 1, 1, 1, 0, 1, 0, 0, 1, 1, 0, 0, 1, 1, 0, 1, 0, 0, 1, 1, 0, 0, 0]) (exP k (m_quant_Maketttthtbltthbtthtbltth_k K r0 r1)) a H) (funext fun a => funext fun H => m_quant_Maketttthtbltthbtthtbltthbt_eq K r0 r1 a H)
  have h2b : codeP PP CC (subC (bodyC PP 17) [1, 1, 1, 1, 0, 1, 0, 0, 1, 1, 0, 0, 1, 1, 0, 1, 0, 0, 1, 1, 0, 0, 0]) (exP (fun (a : TE) (H : AH) => m_quant_Maketttthtbltthbtthtbltthbt K r0 r1 (a 1) (a 4) (a 5) (a 6) (a 7) (a 8) (a 9) (a 10) (a 27) (a 28) (a 31) (a 32) (a 33) H) (m_quant_Maketttthtbltthbtthtbltth_k K r0 r1)) a H = codeP PP CC (subC (bodyC PP 17) [1, 1, 1, 1, 0, 1, 0, 0, 1, 1, 0, 0, 1, 1, 0, 1, 0, 0, 1, 1, 0, 0, 0]) (m_quant_Maketttthtbltthbtthtbltthb_k K r0 r1) a H := by kernel_rfl
  have h3 : codeP PP CC (subC (bodyC PP 17) [1, 1, 1, 1, 0, 1, 0, 0, 1, 1, 0, 0, 1, 1, 0, 1, 0, 0, 1, 1, 0, 0, 0]) (m_quant_Maketttthtbltthbtthtbltthb_k K r0 r1) a H = m_quant_Maketttthtbltthbtthtbltthb K r0 r1 (a 1) (a 4) (a 5) (a 6) (a 7) (a 8) (a 27) (a 28) (a 31) (a 32) (a 33) H := by kernel_rfl
  ((h1.trans h2).trans h2b).trans h3
theorem m_quant_Maketttthtbltthbtthtbltth_eq (K : AV → AH → Prop) (r0 : (AV × AV × AV × AV × AV) → AH → Prop) (r1 : (AV × AV × AV × AV × AV × AV × AV × AV × AV × AV × AV) → AH → Prop) (a : TE) (H : AH) : codeP PP CC (subC (bodyC PP 17) [1, 1, 1, 1, 0, 1, 0, 0, 1, 1, 0, 0, 1, 1, 0, 1, 0, 0, 1, 1, 0]) (m_quant_Maketttthtbltthbtthtbltt_k K r0 r1) a H = m_quant_Maketttthtbltthbtthtbltthb K r0 r1 (a 1) (a 4) (a 5) (a 6) (a 7) (a 8) (a 27) (a 28) (a 31) (a 32) (a 33) H :=
  have h1 : codeP PP CC (subC (bodyC PP 17) [1, 1, 1, 1, 0, 1, 0, 0, 1, 1, 0, 0, 1, 1, 0, 1, 0, 0, 1, 1, 0]) (m_quant_Maketttthtbltthbtthtbltt_k K r0 r1) a H = codeP PP CC (subC (bodyC PP 17) [1, 1, 1, 1, 0, 1, 0, 0, 1, 1, 0, 0, 1, 1, 0, 1, 0, 0, 1, 1, 0, 0]) (m_quant_Maketttthtbltthbtthtbltth_k K r0 r1) a H := by kernel_rfl
  h1.trans (m_quant_Maketttthtbltthbtthtbltthb_eq K r0 r1 a H)
theorem m_quant_Maketttthtbltthbtthtbltt_eq (K : AV → AH → Prop) (r0 : (AV × AV × AV × AV × AV) → AH → Prop) (r1 : (AV × AV × AV × AV × AV × AV × AV × AV × AV × AV × AV) → AH → Prop) (a : TE) (H : AH) : codeP PP CC (subC (bodyC PP 17) [1, 1, 1, 1, 0, 1, 0, 0, 1, 1, 0, 0, 1, 1, 0, 1, 0, 0, 1, 1]) (m_quant_Maketttthtbltthbtthtb_k K r0 r1) a H = m_quant_Maketttthtbltthbtthtbltthb K r0 r1 (a 1) (a 4) (a 5) (a 6) (a 7) (a 8) (a 27) (a 28) (a 31) (a 32) (a 33) H :=
  have h1 : codeP PP CC (subC (bodyC PP 17) [1, 1, 1, 1, 0, 1, 0, 0, 1, 1, 0, 0, 1, 1, 0, 1, 0, 0, 1, 1]) (m_quant_Maketttthtbltthbtthtb_k K r0 r1) a H = codeP PP CC (subC (bodyC PP 17) [1, 1, 1, 1, 0, 1, 0, 0, 1, 1, 0, 0, 1, 1, 0, 1, 0, 0, 1, 1, 0]) (m_quant_Maketttthtbltthbtthtbltt_k K r0 r1) a H := by kernel_rfl
  h1.trans (m_quant_Maketttthtbltthbtthtbltth_eq K r0 r1 a H)
abbrev m_quant_Maketttthtbltthbtthtblt_k (K : AV → AH → Prop) (r0 : (AV × AV × AV × AV × AV) → AH → Prop) (r1 : (AV × AV × AV × AV × AV × AV × AV × AV × AV × AV × AV) → AH → Prop) : KP := exP (fun (a : TE) (H : AH) => m_quant_Maketttthtbltthbtthtbltthb K r0 r1 (a 1) (a 4) (a 5) (a 6) (a 7) (a 8) (a 27) (a 28) (a 31) (a 32) (a 33) H) (m_quant_Maketttthtbltthbtthtb_k K r0 r1)
def m_quant_Maketttthtbltthbtthtblt (K : AV → AH → Prop) (r0 : (AV × AV × AV × AV × AV) → AH → Prop) (r1 : (AV × AV × AV × AV × AV × AV × AV × AV × AV × AV × AV) → AH → Prop) (x1 x4 x5 x6 x7 x8 x27 x28 x31 x32 x33 x34 : AV) (H : AH) : Prop :=
  condP x34
  (m_quant_Maketttthtbltthbtthtbltthb K r0 r1 x1 x4 x5 x6 x7 x8 x27 x28 x31 x32 x33 H)
  (outP CC H (w_fieldAddr 0 H x5) fun v1 H1 =>
  outP CC H1 (w_load none H1 v1) fun v2 H2 =>
  outP CC H2 (w_fieldAddr 1 H2 x5) fun v3 H3 =>
  outP CC H3 (w_load none H3 v3) fun v4 H4 =>
  outP CC H4 (w_int .sub H4 x8 x7) fun v5 H5 =>
  outP CC H5 (w_int .add H5 v5 (.int .i32 255)) fun v6 H6 =>
  outP CC H6 (w_int .sub H6 v6 (.int .i32 1)) fun v7 H7 =>
  outP CC H7 (w_int .quo H7 v7 (.int .i32 255)) fun v8 H8 =>
  outP CC H8 (w_max2 H8 v8 (.int .i32 1)) fun v9 H9 =>
  outP CC H9 (w_indexAddr (.sl 1) H9 v2 x6) fun v10 H10 =>
  outP CC H10 (w_store 1 H10 v10 x7) fun _v11 H11 =>
  ckP (reC true (w_load none H11 v3) v4) <|
  outP CC H11 (w_indexAddr (.sl 1) H11 v4 x6) fun v12 H12 =>
  outP CC H12 (w_store 1 H12 v12 v9) fun _v13 H13 =>
  outP CC H13 (w_int .add H13 x28 (.int .i64 1)) fun v14 H14 =>
  r0 (x1, x4, x5, x27, v14) H14)
theorem m_quant_Maketttthtbltthbtthtblt_eq (K : AV → AH → Prop) (r0 : (AV × AV × AV × AV × AV) → AH → Prop) (r1 : (AV × AV × AV × AV × AV × AV × AV × AV × AV × AV × AV) → AH → Prop) (a : TE) (H : AH) : codeP PP CC (subC (bodyC PP 17) [1, 1, 1, 1, 0, 1, 0, 0, 1, 1, 0, 0, 1, 1, 0, 1, 0, 0, 1]) (m_quant_Maketttthtbltthbtthtb_k K r0 r1) a H = m_quant_Maketttthtbltthbtthtblt K r0 r1 (a 1) (a 4) (a 5) (a 6) (a 7) (a 8) (a 27) (a 28) (a 31) (a 32) (a 33) (a 34) H :=
  have h1 : codeP PP CC (subC (bodyC PP 17) [1, 1, 1, 1, 0, 1, 0, 0, 1, 1, 0, 0, 1, 1, 0, 1, 0, 0, 1]) (m_quant_Maketttthtbltthbtthtb_k K r0 r1) a H = codeP PP CC (subC (bodyC PP 17) [1, 1, 1, 1, 0, 1, 0, 0, 1, 1, 0, 0, 1, 1, 0, 1, 0, 0, 1, 0]) (exP (codeP PP CC (subC (bodyC PP 17) [1, 1, 1, 1, 0, 1, 0, 0, 1, 1, 0, 0, 1, 1, 0, 1, 0, 0, 1, 1]) (m_quant_Maketttthtbltthbtthtb_k K r0 r1)) (m_quant_Maketttthtbltthbtthtb_k K r0 r1)) a H := by kernel_rfl
  have h2 : codeP PP CC (subC (bodyC PP 17) [1, 1, 1, 1, 0, 1, 0, 0, 1, 1, 0, 0, 1, 1, 0, 1, 0, 0, 1, 0]) (exP (codeP PP CC (subC (bodyC PP 17) [1, 1, 1, 1, 0, 1, 0, 0, 1, 1, 0, 0, 1, 1, 0, 1, 0, 0, 1, 1]) (m_quant_Maketttthtbltthbtthtb_k K r0 r1)) (m_quant_Maketttthtbltthbtthtb_k K r0 r1)) a H = codeP PP CC (subC (bodyC PP 17) [1, 1, 1, 1, 0, 1, 0, 0, 1, 1, 0, 0, 1, 1, 0, 1, 0, 0, 1, 0]) (exP (fun (a : TE) (H : AH) => m_quant_Maketttthtbltthbtthtbltthb K r0 r1 (a 1) (a 4) (a 5) (a 6) (a 7) (a 8) (a 27) (a 28) (a 31) (a 32) (a 33) H) (m_quant_Maketttthtbltthbtthtb_k K r0 r1)) a H := congrArg (fun k : KE => codeP PP CC (subC (bodyC PP 17) [1, 1, 1, 1, 0, 1, 0, 0, 1, 1, 0, 0, 1, 1, 0, 1, 0, 0, 1, 0]) (exP k (m_quant_Maketttthtbltthbtthtb_k K r0 r1)) a H) (funext fun a => funext fun H => m_quant_Maketttthtbltthbtthtbltt_eq K r0 r1 a H)
  have h2b : codeP PP CC (subC (bodyC PP 17) [1, 1, 1, 1, 0, 1, 0, 0, 1, 1, 0, 0, 1, 1, 0, 1, 0, 0, 1, 0]) (exP (fun (a : TE) (H : AH) => m_quant_Maketttthtbltthbtthtbltthb K r0 r1 (a 1) (a 4) (a 5) (a 6) (a 7) (a 8) (a 27) (a 28) (a 31) (a 32) (a 33) H) (m_quant_Maketttthtbltthbtthtb_k K r0 r1)) a H = codeP PP CC (subC (bodyC PP 17) [1, 1, 1, 1, 0, 1, 0, 0, 1, 1, 0, 0, 1, 1, 0, 1, 0, 0, 1, 0]) (m_quant_Maketttthtbltthbtthtblt_k K r0 r1) a H := by kernel_rfl
  have h3 : codeP PP CC (subC (bodyC PP 17) [1, 1, 1, 1, 0, 1, 0, 0, 1, 1, 0, 0, 1, 1, 0, 1, 0, 0, 1, 0]) (m_quant_Maketttthtbltthbtthtblt_k K r0 r1) a H = m_quant_Maketttthtbltthbtthtblt K r0 r1 (a 1) (a 4) (a 5) (a 6) (a 7) (a 8) (a 27) (a 28) (a 31) (a 32) (a 33) (a 34) H := by kernel_rfl
  ((h1.trans h2).trans h2b).trans h3
abbrev m_quant_Maketttthtbltthbtthtbl_k (K : AV → AH → Prop) (r0 : (AV × AV × AV × AV × AV) → AH → Prop) (r1 : (AV × AV × AV × AV × AV × AV × AV × AV × AV × AV × AV) → AH → Prop) : KP := exP (fun (a : TE) (H : AH) => m_quant_Maketttthtbltthbtthtblt K r0 r1 (a 1) (a 4) (a 5) (a 6) (a 7) (a 8) (a 27) (a 28) (a 31) (a 32) (a 33) (a 34) H) (m_quant_Maketttthtbltthbtthtb_k K r0 r1)
def m_quant_Maketttthtbltthbtthtbl (K : AV → AH → Prop) (r0 : (AV × AV × AV × AV × AV) → AH → Prop) (r1 : (AV × AV × AV × AV × AV × AV × AV × AV × AV × AV × AV) → AH → Prop) (x1 x4 x5 x6 x7 x8 x27 x28 x31 x32 x33 : AV) (H : AH) : Prop :=
  outP CC H (w_int .lss H x33 x32) fun v1 H1 =>
  m_quant_Maketttthtbltthbtthtblt K r0 r1 x1 x4 x5 x6 x7 x8 x27 x28 x31 x32 x33 v1 H1
theorem m_quant_Maketttthtbltthbtthtbl_eq (K : AV → AH → Prop) (r0 : (AV × AV × AV × AV × AV) → AH → Prop) (r1 : (AV × AV × AV × AV × AV × AV × AV × AV × AV × AV × AV) → AH → Prop) (a : TE) (H : AH) : codeP PP CC (subC (bodyC PP 17) [1, 1, 1, 1, 0, 1, 0, 0, 1, 1, 0, 0, 1, 1, 0, 1, 0, 0]) (m_quant_Maketttthtbltthbtthtb_k K r0 r1) a H = m_quant_Maketttthtbltthbtthtbl K r0 r1 (a 1) (a 4) (a 5) (a 6) (a 7) (a 8) (a 27) (a 28) (a 31) (a 32) (a 33) H :=
  have h1 : codeP PP CC (subC (bodyC PP 17) [1, 1, 1, 1, 0, 1, 0, 0, 1, 1, 0, 0, 1, 1, 0, 1, 0, 0]) (m_quant_Maketttthtbltthbtthtb_k K r0 r1) a H = codeP PP CC (subC (bodyC PP 17) [1, 1, 1, 1, 0, 1, 0, 0, 1, 1, 0, 0, 1, 1, 0, 1, 0, 0, 0]) (exP (codeP PP CC (subC (bodyC PP 17) [1, 1, 1, 1, 0, 1, 0, 0, 1, 1, 0, 0, 1, 1, 0, 1, 0, 0, 1]) (m_quant_Maketttthtbltthbtthtb_k K r0 r1)) (m_quant_Maketttthtbltthbtthtb_k K r0 r1)) a H := by kernel_rfl
  have h2 : codeP PP CC (subC (bodyC PP 17) [1, 1, 1, 1, 0, 1, 0, 0, 1, 1, 0, 0, 1, 1, 0, 1, 0, 0, 0]) (exP (codeP PP CC (subC (bodyC PP 17) [1, 1, 1, 1, 0, 1, 0, 0, 1, 1, 0, 0, 1, 1, 0, 1, 0, 0, 1]) (m_quant_Maketttthtbltthbtthtb_k K r0 r1)) (m_quant_Maketttthtbltthbtthtb_k K r0 r1)) a H = codeP PP CC (subC (bodyC PP 17) [1, 1, 1, 1, 0, 1, 0, 0, 1, 1, 0, 0, 1, 1, 0, 1, 0, 0, 0]) (exP (fun (a : TE) (H : AH) => m_quant_Maketttthtbltthbtthtblt K r0 r1 (a 1) (a 4) (a 5) (a 6) (a 7) (a 8) (a 27) (a 28) (a 31) (a 32) (a 33) (a 34) H) (m_quant_Maketttthtbltthbtthtb_k K r0 r1)) a H := congrArg (fun k : KE => codeP PP CC (subC (bodyC PP 17) [1, 1, 1, 1, 0, 1, 0, 0, 1, 1, 0, 0, 1, 1, 0, 1, 0, 0, 0]) (exP k (m_quant_Maketttthtbltthbtthtb_k K r0 r1)) a H) (funext fun a => funext fun H => m_quant_Maketttthtbltthbtthtblt_eq K r0 r1 a H)
  have h2b : codeP PP CC (subC (bodyC PP 17) [1, 1, 1, 1, 0, 1, 0, 0, 1, 1, 0, 0, 1, 1, 0, 1, 0, 0, 0]) (exP (fun (a : TE) (H : AH) => m_quant_Maketttthtbltthbtthtblt K r0 r1 (a 1) (a 4) (a 5) (a 6) (a 7) (a 8) (a 27) (a 28) (a 31) (a 32) (a 33) (a 34) H) (m_quant_Maketttthtbltthbtthtb_k K r0 r1)) a H = codeP PP CC (subC (bodyC PP 17) [1, 1, 1, 1, 0, 1, 0, 0, 1, 1, 0, 0, 1, 1, 0, 1, 0, 0, 0]) (m_quant_Maketttthtbltthbtthtbl_k K r0 r1) a H := by kernel_rfl
  have h3 : codeP PP CC (subC (bodyC PP 17) [1, 1, 1, 1, 0, 1, 0, 0, 1, 1, 0, 0, 1, 1, 0, 1, 0, 0, 0]) (m_quant_Maketttthtbltthbtthtbl_k K r0 r1) a H = m_quant_Maketttthtbltthbtthtbl K r0 r1 (a 1) (a 4) (a 5) (a 6) (a 7) (a 8) (a 27) (a 28) (a 31) (a 32) (a 33) H := by kernel_rfl
  ((h1.trans h2).trans h2b).trans h3
def m_quant_Maketttthtbltthbtthtb (K : AV → AH → Prop) (r0 : (AV × AV × AV × AV × AV) → AH → Prop) (x1 x4 x5 x6 x7 x8 x27 x28 x31 x32 x33 : AV) (H : AH) : Prop :=
  loopP (fun (r1 : (AV × AV × AV × AV × AV × AV × AV × AV × AV × AV × AV) → AH → Prop) (s : (AV × AV × AV × AV × AV × AV × AV × AV × AV × AV × AV)) (H : AH) => m_quant_Maketttthtbltthbtthtbl K r0 r1 s.1 s.2.1 s.2.2.1 s.2.2.2.1 s.2.2.2.2.1 s.2.2.2.2.2.1 s.2.2.2.2.2.2.1 s.2.2.2.2.2.2.2.1 s.2.2.2.2.2.2.2.2.1 s.2.2.2.2.2.2.2.2.2.1 s.2.2.2.2.2.2.2.2.2.2 H) (x1, x4, x5, x6, x7, x8, x27, x28, x31, x32, x33) H
theorem m_quant_Maketttthtbltthbtthtb_eq (K : AV → AH → Prop) (r0 : (AV × AV × AV × AV × AV) → AH → Prop) (a : TE) (H : AH) : codeP PP CC (subC (bodyC PP 17) [1, 1, 1, 1, 0, 1, 0, 0, 1, 1, 0, 0, 1, 1, 0, 1, 0]) (m_quant_Maketttthtbltthbttht_k K r0) a H = m_quant_Maketttthtbltthbtthtb K r0 (a 1) (a 4) (a 5) (a 6) (a 7) (a 8) (a 27) (a 28) (a 31) (a 32) (a 33) H :=
  have h1 : codeP PP CC (subC (bodyC PP 17) [1, 1, 1, 1, 0, 1, 0, 0, 1, 1, 0, 0, 1, 1, 0, 1, 0]) (m_quant_Maketttthtbltthbttht_k K r0) a H = loopP (fun (rec : KE) => codeP PP CC (subC (bodyC PP 17) [1, 1, 1, 1, 0, 1, 0, 0, 1, 1, 0, 0, 1, 1, 0, 1, 0, 0]) (exP rec (m_quant_Maketttthtbltthbttht_k K r0))) a H := by kernel_rfl
  have h2 := loopP_iso (F := fun (rec : KE) => codeP PP CC (subC (bodyC PP 17) [1, 1, 1, 1, 0, 1, 0, 0, 1, 1, 0, 0, 1, 1, 0, 1, 0, 0]) (exP rec (m_quant_Maketttthtbltthbttht_k K r0))) (S := (AV × AV × AV × AV × AV × AV × AV × AV × AV × AV × AV)) (fun a => (a 1, a 4, a 5, a 6, a 7, a 8, a 27, a 28, a 31, a 32, a 33)) (fun (r1 : (AV × AV × AV × AV × AV × AV × AV × AV × AV × AV × AV) → AH → Prop) (s : (AV × AV × AV × AV × AV × AV × AV × AV × AV × AV × AV)) (H : AH) => m_quant_Maketttthtbltthbtthtbl K r0 r1 s.1 s.2.1 s.2.2.1 s.2.2.2.1 s.2.2.2.2.1 s.2.2.2.2.2.1 s.2.2.2.2.2.2.1 s.2.2.2.2.2.2.2.1 s.2.2.2.2.2.2.2.2.1 s.2.2.2.2.2.2.2.2.2.1 s.2.2.2.2.2.2.2.2.2.2 H) (fun (r1 : (AV × AV × AV × AV × AV × AV × AV × AV × AV × AV × AV) → AH → Prop) (a : TE) (H : AH) => (show codeP PP CC (subC (bodyC PP 17) [1, 1, 1, 1, 0, 1, 0, 0, 1, 1, 0, 0, 1, 1, 0, 1, 0, 0]) (exP (fun (a : TE) (H : AH) => r1 (a 1, a 4, a 5, a 6, a 7, a 8, a 27, a 28, a 31, a 32, a 33) H) (m_quant_Maketttthtbltthbttht_k K r0)) a H = codeP PP CC (subC (bodyC PP 17) [1, 1, 1, 1, 0, 1, 0, 0, 1, 1, 0, 0, 1, 1, 0, 1, 0, 0]) (m_quant_Maketttthtbltthbtthtb_k K r0 r1) a H from by kernel_rfl).trans (m_quant_Maketttthtbltthbtthtbl_eq K r0 r1 a H)) a H
  h1.trans h2
theorem m_quant_Maketttthtbltthbttht_eq (K : AV → AH → Prop) (r0 : (AV × AV × AV × AV × AV) → AH → Prop) (a : TE) (H : AH) : codeP PP CC (subC (bodyC PP 17) [1, 1, 1, 1, 0, 1, 0, 0, 1, 1, 0, 0, 1, 1, 0, 1]) (m_quant_Maketttthtbltthbtt_k K r0) a H = m_quant_Maketttthtbltthbtthtb K r0 (a 1) (a 4) (a 5) (a 6) (a 7) (a 8) (a 27) (a 28) (a 31) (a 32) (a 33) H :=
  have h1 : codeP PP CC (subC (bodyC PP 17) [1, 1, 1, 1, 0, 1, 0, 0, 1, 1, 0, 0, 1, 1, 0, 1]) (m_quant_Maketttthtbltthbtt_k K r0) a H = codeP PP CC (subC (bodyC PP 17) [1, 1, 1, 1, 0, 1, 0, 0, 1, 1, 0, 0, 1, 1, 0, 1, 0]) (m_quant_Maketttthtbltthbttht_k K r0) a H := by kernel_rfl
  h1.trans (m_quant_Maketttthtbltthbtthtb_eq K r0 a H)
abbrev m_quant_Maketttthtbltthbtth_k (K : AV → AH → Prop) (r0 : (AV × AV × AV × AV × AV) → AH → Prop) : KP := exP (fun (a : TE) (H : AH) => m_quant_Maketttthtbltthbtthtb K r0 (a 1) (a 4) (a 5) (a 6) (a 7) (a 8) (a 27) (a 28) (a 31) (a 32) (a 33) H) (m_quant_Maketttthtbltthbtt_k K r0)
def m_quant_Maketttthtbltthbtth (K : AV → AH → Prop) (r0 : (AV × AV × AV × AV × AV) → AH → Prop) (x1 x4 x5 x6 x7 x8 x27 x28 : AV) (H : AH) : Prop :=
  outP CC H (w_len PP 58 H x1) fun v1 H1 =>
  m_quant_Maketttthtbltthbtthtb K r0 x1 x4 x5 x6 x7 x8 x27 x28 x1 v1 (.int .i64 0) H1
theorem m_quant_Maketttthtbltthbtth_eq (K : AV → AH → Prop) (r0 : (AV × AV × AV × AV × AV) → AH → Prop) (a : TE) (H : AH) : codeP PP CC (subC (bodyC PP 17) [1, 1, 1, 1, 0, 1, 0, 0, 1, 1, 0, 0, 1, 1, 0]) (m_quant_Maketttthtbltthbtt_k K r0) a H = m_quant_Maketttthtbltthbtth K r0 (a 1) (a 4) (a 5) (a 6) (a 7) (a 8) (a 27) (a 28) H :=
  have h1 : codeP PP CC (subC (bodyC PP 17) [1, 1, 1, 1, 0, 1, 0, 0, 1, 1, 0, 0, 1, 1, 0]) (m_quant_Maketttthtbltthbtt_k K r0) a H = codeP PP CC (subC (bodyC PP 17) [1, 1, 1, 1, 0, 1, 0, 0, 1, 1, 0, 0, 1, 1, 0, 0]) (exP (codeP PP CC (subC (bodyC PP 17) [1, 1, 1, 1, 0, 1, 0, 0, 1, 1, 0, 0, 1, 1, 0, 1]) (m_quant_Maketttthtbltthbtt_k K r0)) (m_quant_Maketttthtbltthbtt_k K r0)) a H := by kernel_rfl
  have h2 : codeP PP CC (subC (bodyC PP 17) [1, 1, 1, 1, 0, 1, 0, 0, 1, 1, 0, 0, 1, 1, 0, 0]) (exP (codeP PP CC (subC (bodyC PP 17) [1, 1, 1, 1, 0, 1, 0, 0, 1, 1, 0, 0, 1, 1, 0, 1]) (m_quant_Maketttthtbltthbtt_k K r0)) (m_quant_Maketttthtbltthbtt_k K r0)) a H = codeP PP CC (subC (bodyC PP 17) [1, 1, 1, 1, 0, 1, 0, 0, 1, 1, 0, 0, 1, 1, 0, 0]) (exP (fun (a : TE) (H : AH) => m_quant_Maketttthtbltthbtthtb K r0 (a 1) (a 4) (a 5) (a 6) (a 7) (a 8) (a 27) (a 28) (a 31) (a 32) (a 33) H) (m_quant_Maketttthtbltthbtt_k K r0)) a H := congrArg (fun k : KE => codeP PP CC (subC (bodyC PP 17) [1, 1, 1, 1, 0, 1, 0, 0, 1, 1, 0, 0, 1, 1, 0, 0]) (exP k (m_quant_Maketttthtbltthbtt_k K r0)) a H) (funext fun a => funext fun H => m_quant_Maketttthtbltthbttht_eq K r0 a H)
  have h2b : codeP PP CC (subC (bodyC PP 17) [1, 1, 1, 1, 0, 1, 0, 0, 1, 1, 0, 0, 1, 1, 0, 0]) (exP (fun (a : TE) (H : AH) => m_quant_Maketttthtbltthbtthtb K r0 (a 1) (a 4) (a 5) (a 6) (a 7) (a 8) (a 27) (a 28) (a 31) (a 32) (a 33) H) (m_quant_Maketttthtbltthbtt_k K r0)) a H = codeP PP CC (subC (bodyC PP 17) [1, 1, 1, 1, 0, 1, 0, 0, 1, 1, 0, 0, 1, 1, 0, 0]) (m_quant_Maketttthtbltthbtth_k K r0) a H := by kernel_rfl
  have h3 : codeP PP CC (subC (bodyC PP 17) [1, 1, 1, 1, 0, 1, 0, 0, 1, 1, 0, 0, 1, 1, 0, 0]) (m_quant_Maketttthtbltthbtth_k K r0) a H = m_quant_Maketttthtbltthbtth K r0 (a 1) (a 4) (a 5) (a 6) (a 7) (a 8) (a 27) (a 28) H := by kernel_rfl
  ((h1.trans h2).trans h2b).trans h3
theorem m_quant_Maketttthtbltthbtt_eq (K : AV → AH → Prop) (r0 : (AV × AV × AV × AV × AV) → AH → Prop) (a : TE) (H : AH) : codeP PP CC (subC (bodyC PP 17) [1, 1, 1, 1, 0, 1, 0, 0, 1, 1, 0, 0, 1, 1]) (m_quant_Maketttthtbltth_k K r0) a H = m_quant_Maketttthtbltthbtth K r0 (a 1) (a 4) (a 5) (a 6) (a 7) (a 8) (a 27) (a 28) H :=
  have h1 : codeP PP CC (subC (bodyC PP 17) [1, 1, 1, 1, 0, 1, 0, 0, 1, 1, 0, 0, 1, 1]) (m_quant_Maketttthtbltth_k K r0) a H = codeP PP CC (subC (bodyC PP 17) [1, 1, 1, 1, 0, 1, 0, 0, 1, 1, 0, 0, 1, 1, 0]) (m_quant_Maketttthtbltthbtt_k K r0) a H := by kernel_rfl
  h1.trans (m_quant_Maketttthtbltthbtth_eq K r0 a H)
abbrev m_quant_Maketttthtbltthbt_k (K : AV → AH → Prop) (r0 : (AV × AV × AV × AV × AV) → AH → Prop) : KP := exP (fun (a : TE) (H : AH) => m_quant_Maketttthtbltthbtth K r0 (a 1) (a 4) (a 5) (a 6) (a 7) (a 8) (a 27) (a 28) H) (m_quant_Maketttthtbltth_k K r0)
def m_quant_Maketttthtbltthbt (K : AV → AH → Prop) (r0 : (AV × AV × AV × AV × AV) → AH → Prop) (x1 x4 x5 x6 x27 x28 : AV) (H : AH) : Prop :=
  m_quant_Maketttthtbltthbtth K r0 x1 x4 x5 x6 (.int .i32 0) (.int .i32 0) x27 x28 H
theorem m_quant_Maketttthtbltthbt_eq (K : AV → AH → Prop) (r0 : (AV × AV × AV × AV × AV) → AH → Prop) (a : TE) (H : AH) : codeP PP CC (subC (bodyC PP 17) [1, 1, 1, 1, 0, 1, 0, 0, 1, 1, 0, 0, 1]) (m_quant_Maketttthtbltth_k K r0) a H = m_quant_Maketttthtbltthbt K r0 (a 1) (a 4) (a 5) (a 6) (a 27) (a 28) H :=
  have h1 : codeP PP CC (subC (bodyC PP 17) [1, 1, 1, 1, 0, 1, 0, 0, 1, 1, 0, 0, 1]) (m_quant_Maketttthtbltth_k K r0) a H = codeP PP CC (subC (bodyC PP 17) [1, 1, 1, 1, 0, 1, 0, 0, 1, 1, 0, 0, 1, 0]) (exP (codeP PP CC (subC (bodyC PP 17) [1, 1, 1, 1, 0, 1, 0, 0, 1, 1, 0, 0, 1, 1]) (m_quant_Maketttthtbltth_k K r0)) (m_quant_Maketttthtbltth_k K r0)) a H := by kernel_rfl
  have h2 : codeP PP CC (subC (bodyC PP 17) [1, 1, 1, 1, 0, 1, 0, 0, 1, 1, 0, 0, 1, 0]) (exP (codeP PP CC (subC (bodyC PP 17) [1, 1, 1, 1, 0, 1, 0, 0, 1, 1, 0, 0, 1, 1]) (m_quant_Maketttthtbltth_k K r0)) (m_quant_Maketttthtbltth_k K r0)) a H = codeP PP CC (subC (bodyC PP 17) [1, 1, 1, 1, 0, 1, 0, 0, 1, 1, 0, 0, 1, 0]) (exP (fun (a : TE) (H : AH) => m_quant_Maketttthtbltthbtth K r0 (a 1) (a 4) (a 5) (a 6) (a 7) (a 8) (a 27) (a 28) H) (m_quant_Maketttthtbltth_k K r0)) a H := congrArg (fun k : KE => codeP PP CC (subC (bodyC PP 17) [1, 1, 1, 1, 0, 1, 0, 0, 1, 1, 0, 0, 1, 0]) (exP k (m_quant_Maketttthtbltth_k K r0)) a H) (funext fun a => funext fun H => m_quant_Maketttthtbltthbtt_eq K r0 a H)
  have h2b : codeP PP CC (subC (bodyC PP 17) [1, 1, 1, 1, 0, 1, 0, 0, 1, 1, 0, 0, 1, 0]) (exP (fun (a : TE) (H : AH) => m_quant_Maketttthtbltthbtth K r0 (a 1) (a 4) (a 5) (a 6) (a 7) (a 8) (a 27) (a 28) H) (m_quant_Maketttthtbltth_k K r0)) a H = codeP PP CC (subC (bodyC PP 17) [1, 1, 1, 1, 0, 1, 0, 0, 1, 1, 0, 0, 1, 0]) (m_quant_Maketttthtbltthbt_k K r0) a H := by kernel_rfl
  have h3 : codeP PP CC (subC (bodyC PP 17) [1, 1, 1, 1, 0, 1, 0, 0, 1, 1, 0, 0, 1, 0]) (m_quant_Maketttthtbltthbt_k K r0) a H = m_quant_Maketttthtbltthbt K r0 (a 1) (a 4) (a 5) (a 6) (a 27) (a 28) H := by kernel_rfl
  ((h1.trans h2).trans h2b).trans h3
abbrev m_quant_Maketttthtbltthb_k (K : AV → AH → Prop) (r0 : (AV × AV × AV × AV × AV) → AH → Prop) : KP := exP (fun (a : TE) (H : AH) => m_quant_Maketttthtbltthbt K r0 (a 1) (a 4) (a 5) (a 6) (a 27) (a 28) H) (m_quant_Maketttthtbltth_k K r0)
def m_quant_Maketttthtbltthb (K : AV → AH → Prop) (r0 : (AV × AV × AV × AV × AV) → AH → Prop) (x1 x4 x5 x27 x28 : AV) (H : AH) : Prop :=
  m_quant_Maketttthtbltthbt K r0 x1 x4 x5 x28 x27 x28 H
theorem m_quant_Maketttthtbltthb_eq (K : AV → AH → Prop) (r0 : (AV × AV × AV × AV × AV) → AH → Prop) (a : TE) (H : AH) : codeP PP CC (subC (bodyC PP 17) [1, 1, 1, 1, 0, 1, 0, 0, 1, 1, 0, 0]) (m_quant_Maketttthtbltth_k K r0) a H = m_quant_Maketttthtbltthb K r0 (a 1) (a 4) (a 5) (a 27) (a 28) H :=
  have h1 : codeP PP CC (subC (bodyC PP 17) [1, 1, 1, 1, 0, 1, 0, 0, 1, 1, 0, 0]) (m_quant_Maketttthtbltth_k K r0) a H = codeP PP CC (subC (bodyC PP 17) [1, 1, 1, 1, 0, 1, 0, 0, 1, 1, 0, 0, 0]) (exP (codeP PP CC (subC (bodyC PP 17) [1, 1, 1, 1, 0, 1, 0, 0, 1, 1, 0, 0, 1]) (m_quant_Maketttthtbltth_k K r0)) (m_quant_Maketttthtbltth_k K r0)) a H := by kernel_rfl
  have h2 : codeP PP CC (subC (bodyC PP 17) [1, 1, 1, 1, 0, 1, 0, 0, 1, 1, 0, 0, 0]) (exP (codeP PP CC (subC (bodyC PP 17) [1, 1, 1, 1, 0, 1, 0, 0, 1, 1, 0, 0, 1]) (m_quant_Maketttthtbltth_k K r0)) (m_quant_Maketttthtbltth_k K r0)) a H = codeP PP CC (subC (bodyC PP 17) [1, 1, 1, 1, 0, 1, 0, 0, 1, 1, 0, 0, 0]) (exP (fun (a : TE) (H : AH) => m_quant_Maketttthtbltthbt K r0 (a 1) (a 4) (a 5) (a 6) (a 27) (a 28) H) (m_quant_Maketttthtbltth_k K r0)) a H := congrArg (fun k : KE => codeP PP CC (subC (bodyC PP 17) [1, 1, 1, 1, 0, 1, 0, 0, 1, 1, 0, 0, 0]) (exP k (m_quant_Maketttthtbltth_k K r0)) a H) (funext fun a => funext fun H => m_quant_Maketttthtbltthbt_eq K r0 a H)
  have h2b : codeP PP CC (subC (bodyC PP 17) [1, 1, 1, 1, 0, 1, 0, 0, 1, 1, 0, 0, 0]) (exP (fun (a : TE) (H : AH) => m_quant_Maketttthtbltthbt K r0 (a 1) (a 4) (a 5) (a 6) (a 27) (a 28) H) (m_quant_Maketttthtbltth_k K r0)) a H = codeP PP CC (subC (bodyC PP 17) [1, 1, 1, 1, 0, 1, 0, 0, 1, 1, 0, 0, 0]) (m_quant_Maketttthtbltthb_k K r0) a H := by kernel_rfl
  have h3 : codeP PP CC (subC (bodyC PP 17) [1, 1, 1, 1, 0, 1, 0, 0, 1, 1, 0, 0, 0]) (m_quant_Maketttthtbltthb_k K r0) a H = m_quant_Maketttthtbltthb K r0 (a 1) (a 4) (a 5) (a 27) (a 28) H := by kernel_rfl
  ((h1.trans h2).trans h2b).trans h3
theorem m_quant_Maketttthtbltth_eq (K : AV → AH → Prop) (r0 : (AV × AV × AV × AV × AV) → AH → Prop) (a : TE) (H : AH) : codeP PP CC (subC (bodyC PP 17) [1, 1, 1, 1, 0, 1, 0, 0, 1, 1, 0]) (m_quant_Maketttthtbltt_k K r0) a H = m_quant_Maketttthtbltthb K r0 (a 1) (a 4) (a 5) (a 27) (a 28) H :=
  have h1 : codeP PP CC (subC (bodyC PP 17) [1, 1, 1, 1, 0, 1, 0, 0, 1, 1, 0]) (m_quant_Maketttthtbltt_k K r0) a H = codeP PP CC (subC (bodyC PP 17) [1, 1, 1, 1, 0, 1, 0, 0, 1, 1, 0, 0]) (m_quant_Maketttthtbltth_k K r0) a H := by kernel_rfl
  h1.trans (m_quant_Maketttthtbltthb_eq K r0 a H)
theorem m_quant_Maketttthtbltt_eq (K : AV → AH → Prop) (r0 : (AV × AV × AV × AV × AV) → AH → Prop) (a : TE) (H : AH) : codeP PP CC (subC (bodyC PP 17) [1, 1, 1, 1, 0, 1, 0, 0, 1, 1]) (m_quant_Maketttthtb_k K r0) a H = m_quant_Maketttthtbltthb K r0 (a 1) (a 4) (a 5) (a 27) (a 28) H :=
  have h1 : codeP PP CC (subC (bodyC PP 17) [1, 1, 1, 1, 0, 1, 0, 0, 1, 1]) (m_quant_Maketttthtb_k K r0) a H = codeP PP CC (subC (bodyC PP 17) [1, 1, 1, 1, 0, 1, 0, 0, 1, 1, 0]) (m_quant_Maketttthtbltt_k K r0) a H := by kernel_rfl
  h1.trans (m_quant_Maketttthtbltth_eq K r0 a H)
abbrev m_quant_Maketttthtblt_k (K : AV → AH → Prop) (r0 : (AV × AV × AV × AV × AV) → AH → Prop) : KP := exP (fun (a : TE) (H : AH) => m_quant_Maketttthtbltthb K r0 (a 1) (a 4) (a 5) (a 27) (a 28) H) (m_quant_Maketttthtb_k K r0)
def m_quant_Maketttthtblt (K : AV → AH → Prop) (r0 : (AV × AV × AV × AV × AV) → AH → Prop) (x1 x4 x5 x27 x28 x29 : AV) (H : AH) : Prop :=
  condP x29
  (m_quant_Maketttthtbltthb K r0 x1 x4 x5 x27 x28 H)
  (outP CC H (w_load (some 2) H x5) fun v1 H1 =>
  outP CC H1 (w_store 2 H1 x4 v1) fun _v2 H2 =>
  endP (resR (partF (some (some 2))) H2 x4 (some [])) K H2)
theorem m_quant_Maketttthtblt_eq (K : AV → AH → Prop) (r0 : (AV × AV × AV × AV × AV) → AH → Prop) (a : TE) (H : AH) : codeP PP CC (subC (bodyC PP 17) [1, 1, 1, 1, 0, 1, 0, 0, 1]) (m_quant_Maketttthtb_k K r0) a H = m_quant_Maketttthtblt K r0 (a 1) (a 4) (a 5) (a 27) (a 28) (a 29) H :=
  have h1 : codeP PP CC (subC (bodyC PP 17) [1, 1, 1, 1, 0, 1, 0, 0, 1]) (m_quant_Maketttthtb_k K r0) a H = codeP PP CC (subC (bodyC PP 17) [1, 1, 1, 1, 0, 1, 0, 0, 1, 0]) (exP (codeP PP CC (subC (bodyC PP 17) [1, 1, 1, 1, 0, 1, 0, 0, 1, 1]) (m_quant_Maketttthtb_k K r0)) (m_quant_Maketttthtb_k K r0)) a H := by kernel_rfl
  have h2 : codeP PP CC (subC (bodyC PP 17) [1, 1, 1, 1, 0, 1, 0, 0, 1, 0]) (exP (codeP PP CC (subC (bodyC PP 17) [1, 1, 1, 1, 0, 1, 0, 0, 1, 1]) (m_quant_Maketttthtb_k K r0)) (m_quant_Maketttthtb_k K r0)) a H = codeP PP CC (subC (bodyC PP 17) [1, 1, 1, 1, 0, 1, 0, 0, 1, 0]) (exP (fun (a : TE) (H : AH) => m_quant_Maketttthtbltthb K r0 (a 1) (a 4) (a 5) (a 27) (a 28) H) (m_quant_Maketttthtb_k K r0)) a H := congrArg (fun k : KE => codeP PP CC (subC (bodyC PP 17) [1, 1, 1, 1, 0, 1, 0, 0, 1, 0]) (exP k (m_quant_Maketttthtb_k K r0)) a H) (funext fun a => funext fun H => m_quant_Maketttthtbltt_eq K r0 a H)
  have h2b : codeP PP CC (subC (bodyC PP 17) [1, 1, 1, 1, 0, 1, 0, 0, 1, 0]) (exP (fun (a : TE) (H : AH) => m_quant_Maketttthtbltthb K r0 (a 1) (a 4) (a 5) (a 27) (a 28) H) (m_quant_Maketttthtb_k K r0)) a H = codeP PP CC (subC (bodyC PP 17) [1, 1, 1, 1, 0, 1, 0, 0, 1, 0]) (m_quant_Maketttthtblt_k K r0) a H := by kernel_rfl
  have h3 : codeP PP CC (subC (bodyC PP 17) [1, 1, 1, 1, 0, 1, 0, 0, 1, 0]) (m_quant_Maketttthtblt_k K r0) a H = m_quant_Maketttthtblt K r0 (a 1) (a 4) (a 5) (a 27) (a 28) (a 29) H := by kernel_rfl
  ((h1.trans h2).trans h2b).trans h3
abbrev m_quant_Maketttthtbl_k (K : AV → AH → Prop) (r0 : (AV × AV × AV × AV × AV) → AH → Prop) : KP := exP (fun (a : TE) (H : AH) => m_quant_Maketttthtblt K r0 (a 1) (a 4) (a 5) (a 27) (a 28) (a 29) H) (m_quant_Maketttthtb_k K r0)
def m_quant_Maketttthtbl (K : AV → AH → Prop) (r0 : (AV × AV × AV × AV × AV) → AH → Prop) (x1 x4 x5 x27 x28 : AV) (H : AH) : Prop :=
  outP CC H (w_int .lss H x28 x27) fun v1 H1 =>
  m_quant_Maketttthtblt K r0 x1 x4 x5 x27 x28 v1 H1
theorem m_quant_Maketttthtbl_eq (K : AV → AH → Prop) (r0 : (AV × AV × AV × AV × AV) → AH → Prop) (a : TE) (H : AH) : codeP PP CC (subC (bodyC PP 17) [1, 1, 1, 1, 0, 1, 0, 0]) (m_quant_Maketttthtb_k K r0) a H = m_quant_Maketttthtbl K r0 (a 1) (a 4) (a 5) (a 27) (a 28) H :=
  have h1 : codeP PP CC (subC (bodyC PP 17) [1, 1, 1, 1, 0, 1, 0, 0]) (m_quant_Maketttthtb_k K r0) a H = codeP PP CC (subC (bodyC PP 17) [1, 1, 1, 1, 0, 1, 0, 0, 0]) (exP (codeP PP CC (subC (bodyC PP 17) [1, 1, 1, 1, 0, 1, 0, 0, 1]) (m_quant_Maketttthtb_k K r0)) (m_quant_Maketttthtb_k K r0)) a H := by kernel_rfl
  have h2 : codeP PP CC (subC (bodyC PP 17) [1, 1, 1, 1, 0, 1, 0, 0, 0]) (exP (codeP PP CC (subC (bodyC PP 17) [1, 1, 1, 1, 0, 1, 0, 0, 1]) (m_quant_Maketttthtb_k K r0)) (m_quant_Maketttthtb_k K r0)) a H = codeP PP CC (subC (bodyC PP 17) [1, 1, 1, 1, 0, 1, 0, 0, 0]) (exP (fun (a : TE) (H : AH) => m_quant_Maketttthtblt K r0 (a 1) (a 4) (a 5) (a 27) (a 28) (a 29) H) (m_quant_Maketttthtb_k K r0)) a H := congrArg (fun k : KE => codeP PP CC (subC (bodyC PP 17) [1, 1, 1, 1, 0, 1, 0, 0, 0]) (exP k (m_quant_Maketttthtb_k K r0)) a H) (funext fun a => funext fun H => m_quant_Maketttthtblt_eq K r0 a H)
  have h2b : codeP PP CC (subC (bodyC PP 17) [1, 1, 1, 1, 0, 1, 0, 0, 0]) (exP (fun (a : TE) (H : AH) => m_quant_Maketttthtblt K r0 (a 1) (a 4) (a 5) (a 27) (a 28) (a 29) H) (m_quant_Maketttthtb_k K r0)) a H = codeP PP CC (subC (bodyC PP 17) [1, 1, 1, 1, 0, 1, 0, 0, 0]) (m_quant_Maketttthtbl_k K r0) a H := by kernel_rfl
  have h3 : codeP PP CC (subC (bodyC PP 17) [1, 1, 1, 1, 0, 1, 0, 0, 0]) (m_quant_Maketttthtbl_k K r0) a H = m_quant_Maketttthtbl K r0 (a 1) (a 4) (a 5) (a 27) (a 28) H := by kernel_rfl
  ((h1.trans h2).trans h2b).trans h3
def m_quant_Maketttthtb (K : AV → AH → Prop) (x1 x4 x5 x27 x28 : AV) (H : AH) : Prop :=
  loopP (fun (r0 : (AV × AV × AV × AV × AV) → AH → Prop) (s : (AV × AV × AV × AV × AV)) (H : AH) => m_quant_Maketttthtbl K r0 s.1 s.2.1 s.2.2.1 s.2.2.2.1 s.2.2.2.2 H) (x1, x4, x5, x27, x28) H
theorem m_quant_Maketttthtb_eq (K : AV → AH → Prop) (a : TE) (H : AH) : codeP PP CC (subC (bodyC PP 17) [1, 1, 1, 1, 0, 1, 0]) (m_quant_Makettttht_k K) a H = m_quant_Maketttthtb K (a 1) (a 4) (a 5) (a 27) (a 28) H :=
  have h1 : codeP PP CC (subC (bodyC PP 17) [1, 1, 1, 1, 0, 1, 0]) (m_quant_Makettttht_k K) a H = loopP (fun (rec : KE) => codeP PP CC (subC (bodyC PP 17) [1, 1, 1, 1, 0, 1, 0, 0]) (exP rec (m_quant_Makettttht_k K))) a H := by kernel_rfl
  have h2 := loopP_iso (F := fun (rec : KE) => codeP PP CC (subC (bodyC PP 17) [1, 1, 1, 1, 0, 1, 0, 0]) (exP rec (m_quant_Makettttht_k K))) (S := (AV × AV × AV × AV × AV)) (fun a => (a 1, a 4, a 5, a 27, a 28)) (fun (r0 : (AV × AV × AV × AV × AV) → AH → Prop) (s : (AV × AV × AV × AV × AV)) (H : AH) => m_quant_Maketttthtbl K r0 s.1 s.2.1 s.2.2.1 s.2.2.2.1 s.2.2.2.2 H) (fun (r0 : (AV × AV × AV × AV × AV) → AH → Prop) (a : TE) (H : AH) => (show codeP PP CC (subC (bodyC PP 17) [1, 1, 1, 1, 0, 1, 0, 0]) (exP (fun (a : TE) (H : AH) => r0 (a 1, a 4, a 5, a 27, a 28) H) (m_quant_Makettttht_k K)) a H = codeP PP CC (subC (bodyC PP 17) [1, 1, 1, 1, 0, 1, 0, 0]) (m_quant_Maketttthtb_k K r0) a H from by kernel_rfl).trans (m_quant_Maketttthtbl_eq K r0 a H)) a H
  h1.trans h2
theorem m_quant_Makettttht_eq (K : AV → AH → Prop) (a : TE) (H : AH) : codeP PP CC (subC (bodyC PP 17) [1, 1, 1, 1, 0, 1]) (m_quant_Maketttt_k K) a H = m_quant_Maketttthtb K (a 1) (a 4) (a 5) (a 27) (a 28) H :=
  have h1 : codeP PP CC (subC (bodyC PP 17) [1, 1, 1, 1, 0, 1]) (m_quant_Maketttt_k K) a H = codeP PP CC (subC (bodyC PP 17) [1, 1, 1, 1, 0, 1, 0]) (m_quant_Makettttht_k K) a H := by kernel_rfl
  h1.trans (m_quant_Maketttthtb_eq K a H)
abbrev m_quant_Maketttth_k (K : AV → AH → Prop) : KP := exP (fun (a : TE) (H : AH) => m_quant_Maketttthtb K (a 1) (a 4) (a 5) (a 27) (a 28) H) (m_quant_Maketttt_k K)
def m_quant_Maketttth (K : AV → AH → Prop) (x1 x2 x4 x5 : AV) (H : AH) : Prop :=
  outP CC H (w_load none H x2) fun v1 H1 =>
  m_quant_Maketttthtb K x1 x4 x5 v1 (.int .i64 0) H1
theorem m_quant_Maketttth_eq (K : AV → AH → Prop) (a : TE) (H : AH) : codeP PP CC (subC (bodyC PP 17) [1, 1, 1, 1, 0]) (m_quant_Maketttt_k K) a H = m_quant_Maketttth K (a 1) (a 2) (a 4) (a 5) H :=
  have h1 : codeP PP CC (subC (bodyC PP 17) [1, 1, 1, 1, 0]) (m_quant_Maketttt_k K) a H = codeP PP CC (subC (bodyC PP 17) [1, 1, 1, 1, 0, 0]) (exP (codeP PP CC (subC (bodyC PP 17) [1, 1, 1, 1, 0, 1]) (m_quant_Maketttt_k K)) (m_quant_Maketttt_k K)) a H := by kernel_rfl
  have h2 : codeP PP CC (subC (bodyC PP 17) [1, 1, 1, 1, 0, 0]) (exP (codeP PP CC (subC (bodyC PP 17) [1, 1, 1, 1, 0, 1]) (m_quant_Maketttt_k K)) (m_quant_Maketttt_k K)) a H = codeP PP CC (subC (bodyC PP 17) [1, 1, 1, 1, 0, 0]) (exP (fun (a : TE) (H : AH) => m_quant_Maketttthtb K (a 1) (a 4) (a 5) (a 27) (a 28) H) (m_quant_Maketttt_k K)) a H := congrArg (fun k : KE => codeP PP CC (subC (bodyC PP 17) [1, 1, 1, 1, 0, 0]) (exP k (m_quant_Maketttt_k K)) a H) (funext fun a => funext fun H => m_quant_Makettttht_eq K a H)
  have h2b : codeP PP CC (subC (bodyC PP 17) [1, 1, 1, 1, 0, 0]) (exP (fun (a : TE) (H : AH) => m_quant_Maketttthtb K (a 1) (a 4) (a 5) (a 27) (a 28) H) (m_quant_Maketttt_k K)) a H = codeP PP CC (subC (bodyC PP 17) [1, 1, 1, 1, 0, 0]) (m_quant_Maketttth_k K) a H := by kernel_rfl
  have h3 : codeP PP CC (subC (bodyC PP 17) [1, 1, 1, 1, 0, 0]) (m_quant_Maketttth_k K) a H = m_quant_Maketttth K (a 1) (a 2) (a 4) (a 5) H := by kernel_rfl
  ((h1.trans h2).trans h2b).trans h3
theorem m_quant_Maketttt_eq (K : AV → AH → Prop) (a : TE) (H : AH) : codeP PP CC (subC (bodyC PP 17) [1, 1, 1, 1]) (m_quant_Make_K K) a H = m_quant_Maketttth K (a 1) (a 2) (a 4) (a 5) H :=
  have h1 : codeP PP CC (subC (bodyC PP 17) [1, 1, 1, 1]) (m_quant_Make_K K) a H = codeP PP CC (subC (bodyC PP 17) [1, 1, 1, 1, 0]) (m_quant_Maketttt_k K) a H := by kernel_rfl
  h1.trans (m_quant_Maketttth_eq K a H)
abbrev m_quant_Makettt_k (K : AV → AH → Prop) : KP := exP (fun (a : TE) (H : AH) => m_quant_Maketttth K (a 1) (a 2) (a 4) (a 5) H) (m_quant_Make_K K)
def m_quant_Makettt (K : AV → AH → Prop) (x1 x2 x4 : AV) (H : AH) : Prop :=
  outP CC (H.more 3) (w_load none (H.more 3) x2) fun v1 H1 =>
  outP CC H1 (w_load none H1 x2) fun v2 H2 =>
  outP CC H2 (w_makeSlice PP 21 H2 v1 v1 (some (Nat.add H.next 0))) fun v3 H3 =>
  outP CC H3 (w_makeSlice PP 21 H3 v2 v2 (some (Nat.add H.next 1))) fun v4 H4 =>
  outP CC H4 (w_build PP 55 H4 [(0, v3), (1, v4)]) fun v5 H5 =>
  outP CC H5 (w_alloc 55 [(.slice none 0 0 true), (.slice none 0 0 true)] H5 (some (Nat.add H.next 2))) fun v6 H6 =>
  outP CC H6 (w_store 2 H6 v6 v5) fun _v7 H7 =>
  m_quant_Maketttth K x1 x2 x4 v6 H7
theorem m_quant_Makettt_eq (K : AV → AH → Prop) (a : TE) (H : AH) : codeP PP CC (subC (bodyC PP 17) [1, 1, 1]) (m_quant_Make_K K) a H = m_quant_Makettt K (a 1) (a 2) (a 4) H :=
  have h1 : codeP PP CC (subC (bodyC PP 17) [1, 1, 1]) (m_quant_Make_K K) a H = codeP PP CC (subC (bodyC PP 17) [1, 1, 1, 0]) (exP (codeP PP CC (subC (bodyC PP 17) [1, 1, 1, 1]) (m_quant_Make_K K)) (m_quant_Make_K K)) a H := by kernel_rfl
  have h2 : codeP PP CC (subC (bodyC PP 17) [1, 1, 1, 0]) (exP (codeP PP CC (subC (bodyC PP 17) [1, 1, 1, 1]) (m_quant_Make_K K)) (m_quant_Make_K K)) a H = codeP PP CC (subC (bodyC PP 17) [1, 1, 1, 0]) (exP (fun (a : TE) (H : AH) => m_quant_Maketttth K (a 1) (a 2) (a 4) (a 5) H) (m_quant_Make_K K)) a H := congrArg (fun k : KE => codeP PP CC (subC (bodyC PP 17) [1, 1, 1, 0]) (exP k (m_quant_Make_K K)) a H) (funext fun a => funext fun H => m_quant_Maketttt_eq K a H)
  have h2b : codeP PP CC (subC (bodyC PP 17) [1, 1, 1, 0]) (exP (fun (a : TE) (H : AH) => m_quant_Maketttth K (a 1) (a 2) (a 4) (a 5) H) (m_quant_Make_K K)) a H = codeP PP CC (subC (bodyC PP 17) [1, 1, 1, 0]) (m_quant_Makettt_k K) a H := by kernel_rfl
  have h3 : codeP PP CC (subC (bodyC PP 17) [1, 1, 1, 0]) (m_quant_Makettt_k K) a H = m_quant_Makettt K (a 1) (a 2) (a 4) H := by kernel_rfl
  ((h1.trans h2).trans h2b).trans h3
abbrev m_quant_Makett_k (K : AV → AH → Prop) : KP := exP (fun (a : TE) (H : AH) => m_quant_Makettt K (a 1) (a 2) (a 4) H) (m_quant_Make_K K)
def m_quant_Makett (K : AV → AH → Prop) (x1 x2 x4 : AV) (H : AH) : Prop :=
  outP CC H (some (.enter 39 [x1])) fun v1 H1 =>
  outP CC H1 (some (.val (.fn (.func 40) [] [x2]) H1)) fun v2 H2 =>
  outP CC H2 (some (.enter 38 [v1, v2])) fun v3 H3 =>
  m_quant_Makettt K v3 x2 x4 H3
theorem m_quant_Makett_eq (K : AV → AH → Prop) (a : TE) (H : AH) : codeP PP CC (subC (bodyC PP 17) [1, 1]) (m_quant_Make_K K) a H = m_quant_Makett K (a 1) (a 2) (a 4) H :=
  have h1 : codeP PP CC (subC (bodyC PP 17) [1, 1]) (m_quant_Make_K K) a H = codeP PP CC (subC (bodyC PP 17) [1, 1, 0]) (exP (codeP PP CC (subC (bodyC PP 17) [1, 1, 1]) (m_quant_Make_K K)) (m_quant_Make_K K)) a H := by kernel_rfl
  have h2 : codeP PP CC (subC (bodyC PP 17) [1, 1, 0]) (exP (codeP PP CC (subC (bodyC PP 17) [1, 1, 1]) (m_quant_Make_K K)) (m_quant_Make_K K)) a H = codeP PP CC (subC (bodyC PP 17) [1, 1, 0]) (exP (fun (a : TE) (H : AH) => m_quant_Makettt K (a 1) (a 2) (a 4) H) (m_quant_Make_K K)) a H := congrArg (fun k : KE => codeP PP CC (subC (bodyC PP 17) [1, 1, 0]) (exP k (m_quant_Make_K K)) a H) (funext fun a => funext fun H => m_quant_Makettt_eq K a H)
  have h2b : codeP PP CC (subC (bodyC PP 17) [1, 1, 0]) (exP (fun (a : TE) (H : AH) => m_quant_Makettt K (a 1) (a 2) (a 4) H) (m_quant_Make_K K)) a H = codeP PP CC (subC (bodyC PP 17) [1, 1, 0]) (m_quant_Makett_k K) a H := by kernel_rfl
  have h3 : codeP PP CC (subC (bodyC PP 17) [1, 1, 0]) (m_quant_Makett_k K) a H = m_quant_Makett K (a 1) (a 2) (a 4) H := by kernel_rfl
  ((h1.trans h2).trans h2b).trans h3
abbrev m_quant_Maket_k (K : AV → AH → Prop) : KP := exP (fun (a : TE) (H : AH) => m_quant_Makett K (a 1) (a 2) (a 4) H) (m_quant_Make_K K)
def m_quant_Maket (K : AV → AH → Prop) (x1 x2 x4 : AV) (H : AH) : Prop :=
  outP CC H (w_load none H x2) fun v1 H1 =>
  outP CC H1 (w_int .lss H1 v1 (.int .i64 1)) fun v2 H2 =>
  guardP (boolIs false v2) H2 (outP CC H2 (w_load none H2 x2)) fun v3 H3 =>
  guardP (boolIs false v2) H3 (outP CC H3 (w_int .gtr H3 v3 (.int .i64 8))) fun v4 H4 =>
  outP CC H4 (w_pick H4 v2 (.bool true) v4) fun v5 H5 =>
  condP v5
  (outP CC H5 (w_build PP 55 H5 []) fun v6 H6 =>
  outP CC H6 (w_store 2 H6 x4 v6) fun _v7 H7 =>
  endP (resR (partF (some (some 2))) H7 x4 (some [])) K H7)
  (m_quant_Makett K x1 x2 x4 H5)
theorem m_quant_Maket_eq (K : AV → AH → Prop) (a : TE) (H : AH) : codeP PP CC (subC (bodyC PP 17) [1]) (m_quant_Make_K K) a H = m_quant_Maket K (a 1) (a 2) (a 4) H :=
  have h1 : codeP PP CC (subC (bodyC PP 17) [1]) (m_quant_Make_K K) a H = codeP PP CC (subC (bodyC PP 17) [1, 0]) (exP (codeP PP CC (subC (bodyC PP 17) [1, 1]) (m_quant_Make_K K)) (m_quant_Make_K K)) a H := by kernel_rfl
  have h2 : codeP PP CC (subC (bodyC PP 17) [1, 0]) (exP (codeP PP CC (subC (bodyC PP 17) [1, 1]) (m_quant_Make_K K)) (m_quant_Make_K K)) a H = codeP PP CC (subC (bodyC PP 17) [1, 0]) (exP (fun (a : TE) (H : AH) => m_quant_Makett K (a 1) (a 2) (a 4) H) (m_quant_Make_K K)) a H := congrArg (fun k : KE => codeP PP CC (subC (bodyC PP 17) [1, 0]) (exP k (m_quant_Make_K K)) a H) (funext fun a => funext fun H => m_quant_Makett_eq K a H)
  have h2b : codeP PP CC (subC (bodyC PP 17) [1, 0]) (exP (fun (a : TE) (H : AH) => m_quant_Makett K (a 1) (a 2) (a 4) H) (m_quant_Make_K K)) a H = codeP PP CC (subC (bodyC PP 17) [1, 0]) (m_quant_Maket_k K) a H := by kernel_rfl
  have h3 : codeP PP CC (subC (bodyC PP 17) [1, 0]) (m_quant_Maket_k K) a H = m_quant_Maket K (a 1) (a 2) (a 4) H := by kernel_rfl
  ((h1.trans h2).trans h2b).trans h3
abbrev m_quant_Make_k (K : AV → AH → Prop) : KP := exP (fun (a : TE) (H : AH) => m_quant_Maket K (a 1) (a 2) (a 4) H) (m_quant_Make_K K)
def m_quant_Make (K : AV → AH → Prop) (x0 x1 : AV) (H : AH) : Prop :=
  outP CC H (w_box 3 H x0 none) fun v1 H1 =>
  outP CC H1 (w_alloc 55 [(.slice none 0 0 true), (.slice none 0 0 true)] H1 none) fun v2 H2 =>
  m_quant_Maket K x1 v1 v2 H2
theorem m_quant_Make_eq (K : AV → AH → Prop) (a : TE) (H : AH) : codeP PP CC (subC (bodyC PP 17) []) (m_quant_Make_K K) a H = m_quant_Make K (a 0) (a 1) H :=
  have h1 : codeP PP CC (subC (bodyC PP 17) []) (m_quant_Make_K K) a H = codeP PP CC (subC (bodyC PP 17) [0]) (exP (codeP PP CC (subC (bodyC PP 17) [1]) (m_quant_Make_K K)) (m_quant_Make_K K)) a H := by kernel_rfl
  have h2 : codeP PP CC (subC (bodyC PP 17) [0]) (exP (codeP PP CC (subC (bodyC PP 17) [1]) (m_quant_Make_K K)) (m_quant_Make_K K)) a H = codeP PP CC (subC (bodyC PP 17) [0]) (exP (fun (a : TE) (H : AH) => m_quant_Maket K (a 1) (a 2) (a 4) H) (m_quant_Make_K K)) a H := congrArg (fun k : KE => codeP PP CC (subC (bodyC PP 17) [0]) (exP k (m_quant_Make_K K)) a H) (funext fun a => funext fun H => m_quant_Maket_eq K a H)
  have h2b : codeP PP CC (subC (bodyC PP 17) [0]) (exP (fun (a : TE) (H : AH) => m_quant_Maket K (a 1) (a 2) (a 4) H) (m_quant_Make_K K)) a H = codeP PP CC (subC (bodyC PP 17) [0]) (m_quant_Make_k K) a H := by kernel_rfl
  have h3 : codeP PP CC (subC (bodyC PP 17) [0]) (m_quant_Make_k K) a H = m_quant_Make K (a 0) (a 1) H := by kernel_rfl
  ((h1.trans h2).trans h2b).trans h3
theorem m_quant_Make_ok (x0 x1 : AV) (H : AH) (K : AV → AH → Prop) (h : m_quant_Make K x0 x1 H) : CC.call 17 [x0, x1] H K :=
  have h1 : funP PP CC 17 [x0, x1] H K = codeP PP CC (subC (bodyC PP 17) []) (m_quant_Make_K K) (argE [x0, x1]) H := by kernel_rfl
  have h2 : m_quant_Make K (argE [x0, x1] 0) (argE [x0, x1] 1) H = m_quant_Make K x0 x1 H := by kernel_rfl
  funP_ok (P := PP) (by kernel_rfl) (by kernel_rfl) ((h1.trans ((m_quant_Make_eq K (argE [x0, x1]) H).trans h2)).mpr h)

/-! 38: slices.DeleteFunc[[]fieldfare/api.Vec,fieldfare/api.Vec] -/
abbrev m_slices_DeleteFunc_api_Vec_api_Vec_K (K : AV → AH → Prop) : KP := finP PP (resC PP 38) K
abbrev m_slices_DeleteFunc_api_Vec_api_Vecttt_k (K : AV → AH → Prop) : KP := exP (codeP PP CC (subC (bodyC PP 38) [1, 1, 1, 1]) (m_slices_DeleteFunc_api_Vec_api_Vec_K K)) (m_slices_DeleteFunc_api_Vec_api_Vec_K K)
abbrev m_slices_DeleteFunc_api_Vec_api_Vectttht_k (K : AV → AH → Prop) : KP := blockP 0 (m_slices_DeleteFunc_api_Vec_api_Vecttt_k K)
abbrev m_slices_DeleteFunc_api_Vec_api_Vecttthtb_k (K : AV → AH → Prop) (r0 : (AV × AV × AV × AV) → AH → Prop) : KP := exP (fun (a : TE) (H : AH) => r0 (a 0, a 1, a 5, a 6) H) (m_slices_DeleteFunc_api_Vec_api_Vectttht_k K)
def m_slices_DeleteFunc_api_Vec_api_Vecttthtbltt (_K : AV → AH → Prop) (r0 : (AV × AV × AV × AV) → AH → Prop) (x0 x1 x5 x6 : AV) (H : AH) : Prop :=
  outP CC H (w_int .add H x6 (.int .i64 1)) fun v1 H1 =>
  r0 (x0, x1, x5, v1) H1
theorem m_slices_DeleteFunc_api_Vec_api_Vecttthtbltt_eq (K : AV → AH → Prop) (r0 : (AV × AV × AV × AV) → AH → Prop) (a : TE) (H : AH) : codeP PP CC (subC (bodyC PP 38) [1, 1, 1, 0, 1, 0, 0, 1, 1]) (m_slices_DeleteFunc_api_Vec_api_Vecttthtb_k K r0) a H = m_slices_DeleteFunc_api_Vec_api_Vecttthtbltt K r0 (a 0) (a 1) (a 5) (a 6) H :=
  by kernel_rfl
abbrev m_slices_DeleteFunc_api_Vec_api_Vecttthtblt_k (K : AV → AH → Prop) (r0 : (AV × AV × AV × AV) → AH → Prop) : KP := exP (fun (a : TE) (H : AH) => m_slices_DeleteFunc_api_Vec_api_Vecttthtbltt K r0 (a 0) (a 1) (a 5) (a 6) H) (m_slices_DeleteFunc_api_Vec_api_Vecttthtb_k K r0)
def m_slices_DeleteFunc_api_Vec_api_Vecttthtblt (K : AV → AH → Prop) (r0 : (AV × AV × AV × AV) → AH → Prop) (x0 x1 x5 x6 : AV) (H : AH) : Prop :=
  outP CC H (w_indexAddr (.sl 1) H x0 x6) fun v1 H1 =>
  outP CC H1 (w_load none H1 v1) fun v2 H2 =>
  outP CC H2 (callV [v2] x1) fun v3 H3 =>
  outP CC H3 (w_un .not H3 v3) fun v4 H4 =>
  condP v4
  (outP CC H4 (w_indexAddr (.sl 1) H4 x0 x5) fun v5 H5 =>
  outP CC H5 (w_store 1 H5 v5 v2) fun _v6 H6 =>
  outP CC H6 (w_int .add H6 x5 (.int .i64 1)) fun v7 H7 =>
  m_slices_DeleteFunc_api_Vec_api_Vecttthtbltt K r0 x0 x1 v7 x6 H7)
  (m_slices_DeleteFunc_api_Vec_api_Vecttthtbltt K r0 x0 x1 x5 x6 H4)
theorem m_slices_DeleteFunc_api_Vec_api_Vecttthtblt_eq (K : AV → AH → Prop) (r0 : (AV × AV × AV × AV) → AH → Prop) (a : TE) (H : AH) : codeP PP CC (subC (bodyC PP 38) [1, 1, 1, 0, 1, 0, 0, 1]) (m_slices_DeleteFunc_api_Vec_api_Vecttthtb_k K r0) a H = m_slices_DeleteFunc_api_Vec_api_Vecttthtblt K r0 (a 0) (a 1) (a 5) (a 6) H :=
  have h1 : codeP PP CC (subC (bodyC PP 38) [1, 1, 1, 0, 1, 0, 0, 1]) (m_slices_DeleteFunc_api_Vec_api_Vecttthtb_k K r0) a H = codeP PP CC (subC (bodyC PP 38) [1, 1, 1, 0, 1, 0, 0, 1, 0]) (exP (codeP PP CC (subC (bodyC PP 38) [1, 1, 1, 0, 1, 0, 0, 1, 1]) (m_slices_DeleteFunc_api_Vec_api_Vecttthtb_k K r0)) (m_slices_DeleteFunc_api_Vec_api_Vecttthtb_k K r0)) a H := by kernel_rfl
  have h2 : codeP PP CC (subC (bodyC PP 38) [1, 1, 1, 0, 1, 0, 0, 1, 0]) (exP (codeP PP CC (subC (bodyC PP 38) [1, 1, 1, 0, 1, 0, 0, 1, 1]) (m_slices_DeleteFunc_api_Vec_api_Vecttthtb_k K r0)) (m_slices_DeleteFunc_api_Vec_api_Vecttthtb_k K r0)) a H = codeP PP CC (subC (bodyC PP 38) [1, 1, 1, 0, 1, 0, 0, 1, 0]) (exP (fun (a : TE) (H : AH) => m_slices_DeleteFunc_api_Vec_api_Vecttthtbltt K r0 (a 0) (a 1) (a 5) (a 6) H) (m_slices_DeleteFunc_api_Vec_api_Vecttthtb_k K r0)) a H := congrArg (fun k : KE => codeP PP CC (subC (bodyC PP 38) [1, 1, 1, 0, 1, 0, 0, 1, 0]) (exP k (m_slices_DeleteFunc_api_Vec_api_Vecttthtb_k K r0)) a H) (funext fun a => funext fun H => m_slices_DeleteFunc_api_Vec_api_Vecttthtbltt_eq K r0 a H)
  have h2b : codeP PP CC (subC (bodyC PP 38) [1, 1, 1, 0, 1, 0, 0, 1, 0]) (exP (fun (a : TE) (H : AH) => m_slices_DeleteFunc_api_Vec_api_Vecttthtbltt K r0 (a 0) (a 1) (a 5) (a 6) H) (m_slices_DeleteFunc_api_Vec_api_Vecttthtb_k K r0)) a H = codeP PP CC (subC (bodyC PP 38) [1, 1, 1, 0, 1, 0, 0, 1, 0]) (m_slices_DeleteFunc_api_Vec_api_Vecttthtblt_k K r0) a H := by kernel_rfl
  have h3 : codeP PP CC (subC (bodyC PP 38) [1, 1, 1, 0, 1, 0, 0, 1, 0]) (m_slices_DeleteFunc_api_Vec_api_Vecttthtblt_k K r0) a H = m_slices_DeleteFunc_api_Vec_api_Vecttthtblt K r0 (a 0) (a 1) (a 5) (a 6) H := by kernel_rfl
  ((h1.trans h2).trans h2b).trans h3
abbrev m_slices_DeleteFunc_api_Vec_api_Vecttthtbl_k (K : AV → AH → Prop) (r0 : (AV × AV × AV × AV) → AH → Prop) : KP := exP (fun (a : TE) (H : AH) => m_slices_DeleteFunc_api_Vec_api_Vecttthtblt K r0 (a 0) (a 1) (a 5) (a 6) H) (m_slices_DeleteFunc_api_Vec_api_Vecttthtb_k K r0)
def m_slices_DeleteFunc_api_Vec_api_Vecttthtbl (K : AV → AH → Prop) (r0 : (AV × AV × AV × AV) → AH → Prop) (x0 x1 x5 x6 : AV) (H : AH) : Prop :=
  outP CC H (w_len PP 58 H x0) fun v1 H1 =>
  outP CC H1 (w_int .lss H1 x6 v1) fun v2 H2 =>
  condP v2
  (m_slices_DeleteFunc_api_Vec_api_Vecttthtblt K r0 x0 x1 x5 x6 H2)
  (outP CC H2 (w_slice (.sl 1) false false H2 x0 (some x5) none none) fun v3 H3 =>
  outP CC H3 (w_clear PP 58 H3 v3) fun _v4 H4 =>
  outP CC H4 (w_slice (.sl 1) true false H4 x0 none (some x5) none) fun v5 H5 =>
  K v5 H5)
theorem m_slices_DeleteFunc_api_Vec_api_Vecttthtbl_eq (K : AV → AH → Prop) (r0 : (AV × AV × AV × AV) → AH → Prop) (a : TE) (H : AH) : codeP PP CC (subC (bodyC PP 38) [1, 1, 1, 0, 1, 0, 0]) (m_slices_DeleteFunc_api_Vec_api_Vecttthtb_k K r0) a H = m_slices_DeleteFunc_api_Vec_api_Vecttthtbl K r0 (a 0) (a 1) (a 5) (a 6) H :=
  have h1 : codeP PP CC (subC (bodyC PP 38) [1, 1, 1, 0, 1, 0, 0]) (m_slices_DeleteFunc_api_Vec_api_Vecttthtb_k K r0) a H = codeP PP CC (subC (bodyC PP 38) [1, 1, 1, 0, 1, 0, 0, 0]) (exP (codeP PP CC (subC (bodyC PP 38) [1, 1, 1, 0, 1, 0, 0, 1]) (m_slices_DeleteFunc_api_Vec_api_Vecttthtb_k K r0)) (m_slices_DeleteFunc_api_Vec_api_Vecttthtb_k K r0)) a H := by kernel_rfl
  have h2 : codeP PP CC (subC (bodyC PP 38) [1, 1, 1, 0, 1, 0, 0, 0]) (exP (codeP PP CC (subC (bodyC PP 38) [1, 1, 1, 0, 1, 0, 0, 1]) (m_slices_DeleteFunc_api_Vec_api_Vecttthtb_k K r0)) (m_slices_DeleteFunc_api_Vec_api_Vecttthtb_k K r0)) a H = codeP PP CC (subC (bodyC PP 38) [1, 1, 1, 0, 1, 0, 0, 0]) (exP (fun (a : TE) (H : AH) => m_slices_DeleteFunc_api_Vec_api_Vecttthtblt K r0 (a 0) (a 1) (a 5) (a 6) H) (m_slices_DeleteFunc_api_Vec_api_Vecttthtb_k K r0)) a H := congrArg (fun k : KE => codeP PP CC (subC (bodyC PP 38) [1, 1, 1, 0, 1, 0, 0, 0]) (exP k (m_slices_DeleteFunc_api_Vec_api_Vecttthtb_k K r0)) a H) (funext fun a => funext fun H => m_slices_DeleteFunc_api_Vec_api_Vecttthtblt_eq K r0 a H)
  have h2b : codeP PP CC (subC (bodyC PP 38) [1, 1, 1, 0, 1, 0, 0, 0]) (exP (fun (a : TE) (H : AH) => m_slices_DeleteFunc_api_Vec_api_Vecttthtblt K r0 (a 0) (a 1) (a 5) (a 6) H) (m_slices_DeleteFunc_api_Vec_api_Vecttthtb_k K r0)) a H = codeP PP CC (subC (bodyC PP 38) [1, 1, 1, 0, 1, 0, 0, 0]) (m_slices_DeleteFunc_api_Vec_api_Vecttthtbl_k K r0) a H := by kernel_rfl
  have h3 : codeP PP CC (subC (bodyC PP 38) [1, 1, 1, 0, 1, 0, 0, 0]) (m_slices_DeleteFunc_api_Vec_api_Vecttthtbl_k K r0) a H = m_slices_DeleteFunc_api_Vec_api_Vecttthtbl K r0 (a 0) (a 1) (a 5) (a 6) H := by kernel_rfl
  ((h1.trans h2).trans h2b).trans h3
def m_slices_DeleteFunc_api_Vec_api_Vecttthtb (K : AV → AH → Prop) (x0 x1 x5 x6 : AV) (H : AH) : Prop :=
  loopP (fun (r0 : (AV × AV × AV × AV) → AH → Prop) (s : (AV × AV × AV × AV)) (H : AH) => m_slices_DeleteFunc_api_Vec_api_Vecttthtbl K r0 s.1 s.2.1 s.2.2.1 s.2.2.2 H) (x0, x1, x5, x6) H
theorem m_slices_DeleteFunc_api_Vec_api_Vecttthtb_eq (K : AV → AH → Prop) (a : TE) (H : AH) : codeP PP CC (subC (bodyC PP 38) [1, 1, 1, 0, 1, 0]) (m_slices_DeleteFunc_api_Vec_api_Vectttht_k K) a H = m_slices_DeleteFunc_api_Vec_api_Vecttthtb K (a 0) (a 1) (a 5) (a 6) H :=
  have h1 : codeP PP CC (subC (bodyC PP 38) [1, 1, 1, 0, 1, 0]) (m_slices_DeleteFunc_api_Vec_api_Vectttht_k K) a H = loopP (fun (rec : KE) => codeP PP CC (subC (bodyC PP 38) [1, 1, 1, 0, 1, 0, 0]) (exP rec (m_slices_DeleteFunc_api_Vec_api_Vectttht_k K))) a H := by kernel_rfl
  have h2 := loopP_iso (F := fun (rec : KE) => codeP PP CC (subC (bodyC PP 38) [1, 1, 1, 0, 1, 0, 0]) (exP rec (m_slices_DeleteFunc_api_Vec_api_Vectttht_k K))) (S := (AV × AV × AV × AV)) (fun a => (a 0, a 1, a 5, a 6)) (fun (r0 : (AV × AV × AV × AV) → AH → Prop) (s : (AV × AV × AV × AV)) (H : AH) => m_slices_DeleteFunc_api_Vec_api_Vecttthtbl K r0 s.1 s.2.1 s.2.2.1 s.2.2.2 H) (fun (r0 : (AV × AV × AV × AV) → AH → Prop) (a : TE) (H : AH) => (show codeP PP CC (subC (bodyC PP 38) [1, 1, 1, 0, 1, 0, 0]) (exP (fun (a : TE) (H : AH) => r0 (a 0, a 1, a 5, a 6) H) (m_slices_DeleteFunc_api_Vec_api_Vectttht_k K)) a H = codeP PP CC (subC (bodyC PP 38) [1, 1, 1, 0, 1, 0, 0]) (m_slices_DeleteFunc_api_Vec_api_Vecttthtb_k K r0) a H from by kernel_rfl).trans (m_slices_DeleteFunc_api_Vec_api_Vecttthtbl_eq K r0 a H)) a H
  h1.trans h2
theorem m_slices_DeleteFunc_api_Vec_api_Vectttht_eq (K : AV → AH → Prop) (a : TE) (H : AH) : codeP PP CC (subC (bodyC PP 38) [1, 1, 1, 0, 1]) (m_slices_DeleteFunc_api_Vec_api_Vecttt_k K) a H = m_slices_DeleteFunc_api_Vec_api_Vecttthtb K (a 0) (a 1) (a 5) (a 6) H :=
  have h1 : codeP PP CC (subC (bodyC PP 38) [1, 1, 1, 0, 1]) (m_slices_DeleteFunc_api_Vec_api_Vecttt_k K) a H = codeP PP CC (subC (bodyC PP 38) [1, 1, 1, 0, 1, 0]) (m_slices_DeleteFunc_api_Vec_api_Vectttht_k K) a H := by kernel_rfl
  h1.trans (m_slices_DeleteFunc_api_Vec_api_Vecttthtb_eq K a H)
abbrev m_slices_DeleteFunc_api_Vec_api_Vecttth_k (K : AV → AH → Prop) : KP := exP (fun (a : TE) (H : AH) => m_slices_DeleteFunc_api_Vec_api_Vecttthtb K (a 0) (a 1) (a 5) (a 6) H) (m_slices_DeleteFunc_api_Vec_api_Vecttt_k K)
def m_slices_DeleteFunc_api_Vec_api_Vecttth (K : AV → AH → Prop) (x0 x1 x5 : AV) (H : AH) : Prop :=
  outP CC H (w_int .add H x5 (.int .i64 1)) fun v1 H1 =>
  m_slices_DeleteFunc_api_Vec_api_Vecttthtb K x0 x1 x5 v1 H1
theorem m_slices_DeleteFunc_api_Vec_api_Vecttth_eq (K : AV → AH → Prop) (a : TE) (H : AH) : codeP PP CC (subC (bodyC PP 38) [1, 1, 1, 0]) (m_slices_DeleteFunc_api_Vec_api_Vecttt_k K) a H = m_slices_DeleteFunc_api_Vec_api_Vecttth K (a 0) (a 1) (a 5) H :=
  have h1 : codeP PP CC (subC (bodyC PP 38) [1, 1, 1, 0]) (m_slices_DeleteFunc_api_Vec_api_Vecttt_k K) a H = codeP PP CC (subC (bodyC PP 38) [1, 1, 1, 0, 0]) (exP (codeP PP CC (subC (bodyC PP 38) [1, 1, 1, 0, 1]) (m_slices_DeleteFunc_api_Vec_api_Vecttt_k K)) (m_slices_DeleteFunc_api_Vec_api_Vecttt_k K)) a H := by kernel_rfl
  have h2 : codeP PP CC (subC (bodyC PP 38) [1, 1, 1, 0, 0]) (exP (codeP PP CC (subC (bodyC PP 38) [1, 1, 1, 0, 1]) (m_slices_DeleteFunc_api_Vec_api_Vecttt_k K)) (m_slices_DeleteFunc_api_Vec_api_Vecttt_k K)) a H = codeP PP CC (subC (bodyC PP 38) [1, 1, 1, 0, 0]) (exP (fun (a : TE) (H : AH) => m_slices_DeleteFunc_api_Vec_api_Vecttthtb K (a 0) (a 1) (a 5) (a 6) H) (m_slices_DeleteFunc_api_Vec_api_Vecttt_k K)) a H := congrArg (fun k : KE => codeP PP CC (subC (bodyC PP 38) [1, 1, 1, 0, 0]) (exP k (m_slices_DeleteFunc_api_Vec_api_Vecttt_k K)) a H) (funext fun a => funext fun H => m_slices_DeleteFunc_api_Vec_api_Vectttht_eq K a H)
  have h2b : codeP PP CC (subC (bodyC PP 38) [1, 1, 1, 0, 0]) (exP (fun (a : TE) (H : AH) => m_slices_DeleteFunc_api_Vec_api_Vecttthtb K (a 0) (a 1) (a 5) (a 6) H) (m_slices_DeleteFunc_api_Vec_api_Vecttt_k K)) a H = codeP PP CC (subC (bodyC PP 38) [1, 1, 1, 0, 0]) (m_slices_DeleteFunc_api_Vec_api_Vecttth_k K) a H := by kernel_rfl
  have h3 : codeP PP CC (subC (bodyC PP 38) [1, 1, 1, 0, 0]) (m_slices_DeleteFunc_api_Vec_api_Vecttth_k K) a H = m_slices_DeleteFunc_api_Vec_api_Vecttth K (a 0) (a 1) (a 5) H := by kernel_rfl
  ((h1.trans h2).trans h2b).trans h3
theorem m_slices_DeleteFunc_api_Vec_api_Vecttt_eq (K : AV → AH → Prop) (a : TE) (H : AH) : codeP PP CC (subC (bodyC PP 38) [1, 1, 1]) (m_slices_DeleteFunc_api_Vec_api_Vec_K K) a H = m_slices_DeleteFunc_api_Vec_api_Vecttth K (a 0) (a 1) (a 5) H :=
  have h1 : codeP PP CC (subC (bodyC PP 38) [1, 1, 1]) (m_slices_DeleteFunc_api_Vec_api_Vec_K K) a H = codeP PP CC (subC (bodyC PP 38) [1, 1, 1, 0]) (m_slices_DeleteFunc_api_Vec_api_Vecttt_k K) a H := by kernel_rfl
  h1.trans (m_slices_DeleteFunc_api_Vec_api_Vecttth_eq K a H)
abbrev m_slices_DeleteFunc_api_Vec_api_Vectt_k (K : AV → AH → Prop) : KP := exP (fun (a : TE) (H : AH) => m_slices_DeleteFunc_api_Vec_api_Vecttth K (a 0) (a 1) (a 5) H) (m_slices_DeleteFunc_api_Vec_api_Vec_K K)
def m_slices_DeleteFunc_api_Vec_api_Vectt (K : AV → AH → Prop) (x0 x1 x5 : AV) (H : AH) : Prop :=
  outP CC H (w_int .eql H x5 (.int .i64 (-1))) fun v1 H1 =>
  condP v1
  (K x0 H1)
  (m_slices_DeleteFunc_api_Vec_api_Vecttth K x0 x1 x5 H1)
theorem m_slices_DeleteFunc_api_Vec_api_Vectt_eq (K : AV → AH → Prop) (a : TE) (H : AH) : codeP PP CC (subC (bodyC PP 38) [1, 1]) (m_slices_DeleteFunc_api_Vec_api_Vec_K K) a H = m_slices_DeleteFunc_api_Vec_api_Vectt K (a 0) (a 1) (a 5) H :=
  have h1 : codeP PP CC (subC (bodyC PP 38) [1, 1]) (m_slices_DeleteFunc_api_Vec_api_Vec_K K) a H = codeP PP CC (subC (bodyC PP 38) [1, 1, 0]) (exP (codeP PP CC (subC (bodyC PP 38) [1, 1, 1]) (m_slices_DeleteFunc_api_Vec_api_Vec_K K)) (m_slices_DeleteFunc_api_Vec_api_Vec_K K)) a H := by kernel_rfl
  have h2 : codeP PP CC (subC (bodyC PP 38) [1, 1, 0]) (exP (codeP PP CC (subC (bodyC PP 38) [1, 1, 1]) (m_slices_DeleteFunc_api_Vec_api_Vec_K K)) (m_slices_DeleteFunc_api_Vec_api_Vec_K K)) a H = codeP PP CC (subC (bodyC PP 38) [1, 1, 0]) (exP (fun (a : TE) (H : AH) => m_slices_DeleteFunc_api_Vec_api_Vecttth K (a 0) (a 1) (a 5) H) (m_slices_DeleteFunc_api_Vec_api_Vec_K K)) a H := congrArg (fun k : KE => codeP PP CC (subC (bodyC PP 38) [1, 1, 0]) (exP k (m_slices_DeleteFunc_api_Vec_api_Vec_K K)) a H) (funext fun a => funext fun H => m_slices_DeleteFunc_api_Vec_api_Vecttt_eq K a H)
  have h2b : codeP PP CC (subC (bodyC PP 38) [1, 1, 0]) (exP (fun (a : TE) (H : AH) => m_slices_DeleteFunc_api_Vec_api_Vecttth K (a 0) (a 1) (a 5) H) (m_slices_DeleteFunc_api_Vec_api_Vec_K K)) a H = codeP PP CC (subC (bodyC PP 38) [1, 1, 0]) (m_slices_DeleteFunc_api_Vec_api_Vectt_k K) a H := by kernel_rfl
  have h3 : codeP PP CC (subC (bodyC PP 38) [1, 1, 0]) (m_slices_DeleteFunc_api_Vec_api_Vectt_k K) a H = m_slices_DeleteFunc_api_Vec_api_Vectt K (a 0) (a 1) (a 5) H := by kernel_rfl
  ((h1.trans h2).trans h2b).trans h3
abbrev m_slices_DeleteFunc_api_Vec_api_Vect_k (K : AV → AH → Prop) : KP := exP (fun (a : TE) (H : AH) => m_slices_DeleteFunc_api_Vec_api_Vectt K (a 0) (a 1) (a 5) H) (m_slices_DeleteFunc_api_Vec_api_Vec_K K)
def m_slices_DeleteFunc_api_Vec_api_Vect (K : AV → AH → Prop) (x0 x1 : AV) (H : AH) : Prop :=
  outP CC H (some (.enter 60 [x0, x1])) fun v1 H1 =>
  m_slices_DeleteFunc_api_Vec_api_Vectt K x0 x1 v1 H1
theorem m_slices_DeleteFunc_api_Vec_api_Vect_eq (K : AV → AH → Prop) (a : TE) (H : AH) : codeP PP CC (subC (bodyC PP 38) [1]) (m_slices_DeleteFunc_api_Vec_api_Vec_K K) a H = m_slices_DeleteFunc_api_Vec_api_Vect K (a 0) (a 1) H :=
  have h1 : codeP PP CC (subC (bodyC PP 38) [1]) (m_slices_DeleteFunc_api_Vec_api_Vec_K K) a H = codeP PP CC (subC (bodyC PP 38) [1, 0]) (exP (codeP PP CC (subC (bodyC PP 38) [1, 1]) (m_slices_DeleteFunc_api_Vec_api_Vec_K K)) (m_slices_DeleteFunc_api_Vec_api_Vec_K K)) a H := by kernel_rfl
  have h2 : codeP PP CC (subC (bodyC PP 38) [1, 0]) (exP (codeP PP CC (subC (bodyC PP 38) [1, 1]) (m_slices_DeleteFunc_api_Vec_api_Vec_K K)) (m_slices_DeleteFunc_api_Vec_api_Vec_K K)) a H = codeP PP CC (subC (bodyC PP 38) [1, 0]) (exP (fun (a : TE) (H : AH) => m_slices_DeleteFunc_api_Vec_api_Vectt K (a 0) (a 1) (a 5) H) (m_slices_DeleteFunc_api_Vec_api_Vec_K K)) a H := congrArg (fun k : KE => codeP PP CC (subC (bodyC PP 38) [1, 0]) (exP k (m_slices_DeleteFunc_api_Vec_api_Vec_K K)) a H) (funext fun a => funext fun H => m_slices_DeleteFunc_api_Vec_api_Vectt_eq K a H)
  have h2b : codeP PP CC (subC (bodyC PP 38) [1, 0]) (exP (fun (a : TE) (H : AH) => m_slices_DeleteFunc_api_Vec_api_Vectt K (a 0) (a 1) (a 5) H) (m_slices_DeleteFunc_api_Vec_api_Vec_K K)) a H = codeP PP CC (subC (bodyC PP 38) [1, 0]) (m_slices_DeleteFunc_api_Vec_api_Vect_k K) a H := by kernel_rfl
  have h3 : codeP PP CC (subC (bodyC PP 38) [1, 0]) (m_slices_DeleteFunc_api_Vec_api_Vect_k K) a H = m_slices_DeleteFunc_api_Vec_api_Vect K (a 0) (a 1) H := by kernel_rfl
  ((h1.trans h2).trans h2b).trans h3
abbrev m_slices_DeleteFunc_api_Vec_api_Vec_k (K : AV → AH → Prop) : KP := exP (fun (a : TE) (H : AH) => m_slices_DeleteFunc_api_Vec_api_Vect K (a 0) (a 1) H) (m_slices_DeleteFunc_api_Vec_api_Vec_K K)
def m_slices_DeleteFunc_api_Vec_api_Vec (K : AV → AH → Prop) (x0 x1 : AV) (H : AH) : Prop :=
  m_slices_DeleteFunc_api_Vec_api_Vect K x0 x1 H
theorem m_slices_DeleteFunc_api_Vec_api_Vec_eq (K : AV → AH → Prop) (a : TE) (H : AH) : codeP PP CC (subC (bodyC PP 38) []) (m_slices_DeleteFunc_api_Vec_api_Vec_K K) a H = m_slices_DeleteFunc_api_Vec_api_Vec K (a 0) (a 1) H :=
  have h1 : codeP PP CC (subC (bodyC PP 38) []) (m_slices_DeleteFunc_api_Vec_api_Vec_K K) a H = codeP PP CC (subC (bodyC PP 38) [0]) (exP (codeP PP CC (subC (bodyC PP 38) [1]) (m_slices_DeleteFunc_api_Vec_api_Vec_K K)) (m_slices_DeleteFunc_api_Vec_api_Vec_K K)) a H := by kernel_rfl
  have h2 : codeP PP CC (subC (bodyC PP 38) [0]) (exP (codeP PP CC (subC (bodyC PP 38) [1]) (m_slices_DeleteFunc_api_Vec_api_Vec_K K)) (m_slices_DeleteFunc_api_Vec_api_Vec_K K)) a H = codeP PP CC (subC (bodyC PP 38) [0]) (exP (fun (a : TE) (H : AH) => m_slices_DeleteFunc_api_Vec_api_Vect K (a 0) (a 1) H) (m_slices_DeleteFunc_api_Vec_api_Vec_K K)) a H := congrArg (fun k : KE => codeP PP CC (subC (bodyC PP 38) [0]) (exP k (m_slices_DeleteFunc_api_Vec_api_Vec_K K)) a H) (funext fun a => funext fun H => m_slices_DeleteFunc_api_Vec_api_Vect_eq K a H)
  have h2b : codeP PP CC (subC (bodyC PP 38) [0]) (exP (fun (a : TE) (H : AH) => m_slices_DeleteFunc_api_Vec_api_Vect K (a 0) (a 1) H) (m_slices_DeleteFunc_api_Vec_api_Vec_K K)) a H = codeP PP CC (subC (bodyC PP 38) [0]) (m_slices_DeleteFunc_api_Vec_api_Vec_k K) a H := by kernel_rfl
  have h3 : codeP PP CC (subC (bodyC PP 38) [0]) (m_slices_DeleteFunc_api_Vec_api_Vec_k K) a H = m_slices_DeleteFunc_api_Vec_api_Vec K (a 0) (a 1) H := by kernel_rfl
  ((h1.trans h2).trans h2b).trans h3
theorem m_slices_DeleteFunc_api_Vec_api_Vec_ok (x0 x1 : AV) (H : AH) (K : AV → AH → Prop) (h : m_slices_DeleteFunc_api_Vec_api_Vec K x0 x1 H) : CC.call 38 [x0, x1] H K :=
  have h1 : funP PP CC 38 [x0, x1] H K = codeP PP CC (subC (bodyC PP 38) []) (m_slices_DeleteFunc_api_Vec_api_Vec_K K) (argE [x0, x1]) H := by kernel_rfl
  have h2 : m_slices_DeleteFunc_api_Vec_api_Vec K (argE [x0, x1] 0) (argE [x0, x1] 1) H = m_slices_DeleteFunc_api_Vec_api_Vec K x0 x1 H := by kernel_rfl
  funP_ok (P := PP) (by kernel_rfl) (by kernel_rfl) ((h1.trans ((m_slices_DeleteFunc_api_Vec_api_Vec_eq K (argE [x0, x1]) H).trans h2)).mpr h)

/-! 39: slices.Clone[[]fieldfare/api.Vec,fieldfare/api.Vec] -/
abbrev m_slices_Clone_api_Vec_api_Vec_K (K : AV → AH → Prop) : KP := finP PP (resC PP 39) K
def m_slices_Clone_api_Vec_api_Vec (K : AV → AH → Prop) (x0 : AV) (H : AH) : Prop :=
  outP CC H (w_eq PP .eql 58 false true H x0 (.slice none 0 0 true)) fun v1 H1 =>
  condP v1
  (K (.slice none 0 0 true) H1)
  (outP CC H1 (w_buildSlice PP 49 0 H1 [] none) fun v2 H2 =>
  outP CC H2 (w_append 49 1 24 H2 v2 x0 none) fun v3 H3 =>
  K v3 H3)
theorem m_slices_Clone_api_Vec_api_Vec_eq (K : AV → AH → Prop) (a : TE) (H : AH) : codeP PP CC (subC (bodyC PP 39) []) (m_slices_Clone_api_Vec_api_Vec_K K) a H = m_slices_Clone_api_Vec_api_Vec K (a 0) H :=
  by kernel_rfl
theorem m_slices_Clone_api_Vec_api_Vec_ok (x0 : AV) (H : AH) (K : AV → AH → Prop) (h : m_slices_Clone_api_Vec_api_Vec K x0 H) : CC.call 39 [x0] H K :=
  have h1 : funP PP CC 39 [x0] H K = codeP PP CC (subC (bodyC PP 39) []) (m_slices_Clone_api_Vec_api_Vec_K K) (argE [x0]) H := by kernel_rfl
  have h2 : m_slices_Clone_api_Vec_api_Vec K (argE [x0] 0) H = m_slices_Clone_api_Vec_api_Vec K x0 H := by kernel_rfl
  funP_ok (P := PP) (by kernel_rfl) (by kernel_rfl) ((h1.trans ((m_slices_Clone_api_Vec_api_Vec_eq K (argE [x0]) H).trans h2)).mpr h)

/-! 40: fieldfare/quant.Make$1 -/
abbrev m_quant_Make_1_K (K : AV → AH → Prop) : KP := finP PP (resC PP 40) K
def m_quant_Make_1 (K : AV → AH → Prop) (x0 x1 : AV) (H : AH) : Prop :=
  outP CC H (w_load none H x1) fun v1 H1 =>
  outP CC H1 (some (.enter 41 [x0, v1])) fun v2 H2 =>
  outP CC H2 (w_un .not H2 v2) fun v3 H3 =>
  K v3 H3
theorem m_quant_Make_1_eq (K : AV → AH → Prop) (a : TE) (H : AH) : codeP PP CC (subC (bodyC PP 40) []) (m_quant_Make_1_K K) a H = m_quant_Make_1 K (a 0) (a 1) H :=
  by kernel_rfl
theorem m_quant_Make_1_ok (x0 x1 : AV) (H : AH) (K : AV → AH → Prop) (h : m_quant_Make_1 K x0 x1 H) : CC.call 40 [x0, x1] H K :=
  have h1 : funP PP CC 40 [x0, x1] H K = codeP PP CC (subC (bodyC PP 40) []) (m_quant_Make_1_K K) (argE [x0, x1]) H := by kernel_rfl
  have h2 : m_quant_Make_1 K (argE [x0, x1] 0) (argE [x0, x1] 1) H = m_quant_Make_1 K x0 x1 H := by kernel_rfl
  funP_ok (P := PP) (by kernel_rfl) (by kernel_rfl) ((h1.trans ((m_quant_Make_1_eq K (argE [x0, x1]) H).trans h2)).mpr h)

end
end Go.Ab
