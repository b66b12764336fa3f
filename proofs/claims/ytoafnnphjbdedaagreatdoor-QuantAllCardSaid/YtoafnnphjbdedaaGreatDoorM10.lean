/- What functions do, said as what the evaluator does. Printed by a program. -/
import Derived.Test.YtoafnnphjbdedaaGreatDoorBeg
import Derived.Test.YtoafnnphjbdedaaGreatDoorEv3
namespace Go.Ab
noncomputable section
open Go.Proofs
set_option maxRecDepth 100000



/-! 10: fieldfare/fieldfarelaw7.QuantAll -/
abbrev m_fieldfarelaw7_QuantAll_K (K : AV → AH → Prop) : KP := finP PP (resC PP 10) K
abbrev m_fieldfarelaw7_QuantAllttttttttt_k (K : AV → AH → Prop) : KP := exP (codeP PP CC (subC (bodyC PP 10) [1, 1, 1, 1, 1, 1, 1, 1, 1, 1]) (m_fieldfarelaw7_QuantAll_K K)) (m_fieldfarelaw7_QuantAll_K K)
abbrev m_fieldfarelaw7_QuantAlltttttttttht_k (K : AV → AH → Prop) : KP := blockP 0 (m_fieldfarelaw7_QuantAllttttttttt_k K)
abbrev m_fieldfarelaw7_QuantAllttttttttthtb_k (K : AV → AH → Prop) (r0 : (AV × AV × AV × AV × AV) → AH → Prop) : KP := exP (fun (a : TE) (H : AH) => r0 (a 0, a 8, a 66, a 67, a 68) H) (m_fieldfarelaw7_QuantAlltttttttttht_k K)
abbrev m_fieldfarelaw7_QuantAllttttttttthtbltt_k (K : AV → AH → Prop) (r0 : (AV × AV × AV × AV × AV) → AH → Prop) : KP := exP (codeP PP CC (subC (bodyC PP 10) [1, 1, 1, 1, 1, 1, 1, 1, 1, 0, 1, 0, 0, 1, 1, 1]) (m_fieldfarelaw7_QuantAllttttttttthtb_k K r0)) (m_fieldfarelaw7_QuantAllttttttttthtb_k K r0)
abbrev m_fieldfarelaw7_QuantAllttttttttthtbltth_k (K : AV → AH → Prop) (r0 : (AV × AV × AV × AV × AV) → AH → Prop) : KP := blockP 1 (m_fieldfarelaw7_QuantAllttttttttthtbltt_k K r0)
abbrev m_fieldfarelaw7_QuantAllttttttttthtbltthbttttt_k (K : AV → AH → Prop) (r0 : (AV × AV × AV × AV × AV) → AH → Prop) : KP := blockP 2 (m_fieldfarelaw7_QuantAllttttttttthtbltth_k K r0)
abbrev m_fieldfarelaw7_QuantAllttttttttthtbltthbtttttb_k (K : AV → AH → Prop) (r0 : (AV × AV × AV × AV × AV) → AH → Prop) (r1 : (AV × AV × AV × AV × AV × AV × AV × AV × AV) → AH → Prop) : KP := exP (fun (a : TE) (H : AH) => r1 (a 0, a 8, a 12, a 13, a 66, a 67, a 68, a 87, a 88) H) (m_fieldfarelaw7_QuantAllttttttttthtbltthbttttt_k K r0)
def m_fieldfarelaw7_QuantAllttttttttthtbltthbtttttbl (K : AV → AH → Prop) (r0 : (AV × AV × AV × AV × AV) → AH → Prop) (r1 : (AV × AV × AV × AV × AV × AV × AV × AV × AV) → AH → Prop) (x0 x8 x12 x13 x66 x67 x68 x87 x88 : AV) (H : AH) : Prop :=
  outP CC H (w_int .lss H x88 x87) fun v1 H1 =>
  condP v1
  (outP CC H1 (w_indexAddr (.sl 1) H1 x12 x88) fun v2 H2 =>
  outP CC H2 (w_load none H2 v2) fun v3 H3 =>
  outP CC H3 (w_conv (.int .i64) H3 v3 none) fun v4 H4 =>
  outP CC H4 (w_indexAddr (.sl 1) H4 x13 x88) fun v5 H5 =>
  outP CC H5 (w_load none H5 v5) fun v6 H6 =>
  outP CC H6 (w_conv (.int .i64) H6 v6 none) fun v7 H7 =>
  outP CC H7 (w_int .sub H7 v4 v7) fun v8 H8 =>
  outP CC H8 (w_load (some 2) H8 x8) fun v9 H9 =>
  outP CC H9 (some (.enter 37 [v9])) fun v10 H10 =>
  outP CC H10 (w_conv (.int .i64) H10 v10 none) fun v11 H11 =>
  outP CC H11 (w_int .gtr H11 v8 v11) fun v12 H12 =>
  guardP (boolIs false v12) H12 (outP CC H12 (some (.val v8 H12))) fun v13 H13 =>
  guardP (boolIs false v12) H13 (outP CC H13 (w_un .neg H13 v13)) fun v14 H14 =>
  guardP (boolIs false v12) H14 (outP CC H14 (w_load (some 2) H14 x8)) fun v15 H15 =>
  guardP (boolIs false v12) H15 (outP CC H15 (some (.enter 37 [v15]))) fun v16 H16 =>
  guardP (boolIs false v12) H16 (outP CC H16 (w_conv (.int .i64) H16 v16 none)) fun v17 H17 =>
  guardP (boolIs false v12) H17 (outP CC H17 (w_int .gtr H17 v14 v17)) fun v18 H18 =>
  outP CC H18 (w_pick H18 v12 (.bool true) v18) fun v19 H19 =>
  condP v19
  (K (.bool false) H19)
  (outP CC H19 (w_int .add H19 x88 (.int .i64 1)) fun v20 H20 =>
  r1 (x0, x8, x12, x13, x66, x67, x68, x87, v20) H20))
  (outP CC H1 (w_int .add H1 x68 (.int .i64 1)) fun v21 H21 =>
  r0 (x0, x8, x66, x67, v21) H21)
theorem m_fieldfarelaw7_QuantAllttttttttthtbltthbtttttbl_eq (K : AV → AH → Prop) (r0 : (AV × AV × AV × AV × AV) → AH → Prop) (r1 : (AV × AV × AV × AV × AV × AV × AV × AV × AV) → AH → Prop) (a : TE) (H : AH) : codeP PP CC (subC (bodyC PP 10) [1, 1, 1, 1, 1, 1, 1, 1, 1, 0, 1, 0, 0, 1, 1, 0, 0, 1, 1, 1, 1, 1, 0, 0]) (m_fieldfarelaw7_QuantAllttttttttthtbltthbtttttb_k K r0 r1) a H = m_fieldfarelaw7_QuantAllttttttttthtbltthbtttttbl K r0 r1 (a 0) (a 8) (a 12) (a 13) (a 66) (a 67) (a 68) (a 87) (a 88) H :=
  by kernel_rfl
def m_fieldfarelaw7_QuantAllttttttttthtbltthbtttttb (K : AV → AH → Prop) (r0 : (AV × AV × AV × AV × AV) → AH → Prop) (x0 x8 x12 x13 x66 x67 x68 x87 x88 : AV) (H : AH) : Prop :=
  loopP (fun (r1 : (AV × AV × AV × AV × AV × AV × AV × AV × AV) → AH → Prop) (s : (AV × AV × AV × AV × AV × AV × AV × AV × AV)) (H : AH) => m_fieldfarelaw7_QuantAllttttttttthtbltthbtttttbl K r0 r1 s.1 s.2.1 s.2.2.1 s.2.2.2.1 s.2.2.2.2.1 s.2.2.2.2.2.1 s.2.2.2.2.2.2.1 s.2.2.2.2.2.2.2.1 s.2.2.2.2.2.2.2.2 H) (x0, x8, x12, x13, x66, x67, x68, x87, x88) H
theorem m_fieldfarelaw7_QuantAllttttttttthtbltthbtttttb_eq (K : AV → AH → Prop) (r0 : (AV × AV × AV × AV × AV) → AH → Prop) (a : TE) (H : AH) : codeP PP CC (subC (bodyC PP 10) [1, 1, 1, 1, 1, 1, 1, 1, 1, 0, 1, 0, 0, 1, 1, 0, 0, 1, 1, 1, 1, 1, 0]) (m_fieldfarelaw7_QuantAllttttttttthtbltthbttttt_k K r0) a H = m_fieldfarelaw7_QuantAllttttttttthtbltthbtttttb K r0 (a 0) (a 8) (a 12) (a 13) (a 66) (a 67) (a 68) (a 87) (a 88) H :=
  have h1 : codeP PP CC (subC (bodyC PP 10) [1, 1, 1, 1, 1, 1, 1, 1, 1, 0, 1, 0, 0, 1, 1, 0, 0, 1, 1, 1, 1, 1, 0]) (m_fieldfarelaw7_QuantAllttttttttthtbltthbttttt_k K r0) a H = loopP (fun (rec : KE) => codeP PP CC (subC (bodyC PP 10) [1, 1, 1, 1, 1, 1, 1, 1, 1, 0, 1, 0, 0, 1, 1, 0, 0, 1, 1, 1, 1, 1, 0, 0]) (exP rec (m_fieldfarelaw7_QuantAllttttttttthtbltthbttttt_k K r0))) a H := by kernel_rfl
  have h2 := loopP_iso (F := fun (rec : KE) => codeP PP CC (subC (bodyC PP 10) [1, 1, 1, 1, 1, 1, 1, 1, 1, 0, 1, 0, 0, 1, 1, 0, 0, 1, 1, 1, 1, 1, 0, 0]) (exP rec (m_fieldfarelaw7_QuantAllttttttttthtbltthbttttt_k K r0))) (S := (AV × AV × AV × AV × AV × AV × AV × AV × AV)) (fun a => (a 0, a 8, a 12, a 13, a 66, a 67, a 68, a 87, a 88)) (fun (r1 : (AV × AV × AV × AV × AV × AV × AV × AV × AV) → AH → Prop) (s : (AV × AV × AV × AV × AV × AV × AV × AV × AV)) (H : AH) => m_fieldfarelaw7_QuantAllttttttttthtbltthbtttttbl K r0 r1 s.1 s.2.1 s.2.2.1 s.2.2.2.1 s.2.2.2.2.1 s.2.2.2.2.2.1 s.2.2.2.2.2.2.1 s.2.2.2.2.2.2.2.1 s.2.2.2.2.2.2.2.2 H) (fun (r1 : (AV × AV × AV × AV × AV × AV × AV × AV × AV) → AH → Prop) (a : TE) (H : AH) => (show codeP PP CC (subC (bodyC PP 10) [1, 1, 1, 1, 1, 1, 1, 1, 1, 0, 1, 0, 0, 1, 1, 0, 0, 1, 1, 1, 1, 1, 0, 0]) (exP (fun (a : TE) (H : AH) => r1 (a 0, a 8, a 12, a 13, a 66, a 67, a 68, a 87, a 88) H) (m_fieldfarelaw7_QuantAllttttttttthtbltthbttttt_k K r0)) a H = codeP PP CC (subC (bodyC PP 10) [1, 1, 1, 1, 1, 1, 1, 1, 1, 0, 1, 0, 0, 1, 1, 0, 0, 1, 1, 1, 1, 1, 0, 0]) (m_fieldfarelaw7_QuantAllttttttttthtbltthbtttttb_k K r0 r1) a H from by kernel_rfl).trans (m_fieldfarelaw7_QuantAllttttttttthtbltthbtttttbl_eq K r0 r1 a H)) a H
  h1.trans h2
theorem m_fieldfarelaw7_QuantAllttttttttthtbltthbttttt_eq (K : AV → AH → Prop) (r0 : (AV × AV × AV × AV × AV) → AH → Prop) (a : TE) (H : AH) : codeP PP CC (subC (bodyC PP 10) [1, 1, 1, 1, 1, 1, 1, 1, 1, 0, 1, 0, 0, 1, 1, 0, 0, 1, 1, 1, 1, 1]) (m_fieldfarelaw7_QuantAllttttttttthtbltth_k K r0) a H = m_fieldfarelaw7_QuantAllttttttttthtbltthbtttttb K r0 (a 0) (a 8) (a 12) (a 13) (a 66) (a 67) (a 68) (a 87) (a 88) H :=
  have h1 : codeP PP CC (subC (bodyC PP 10) [1, 1, 1, 1, 1, 1, 1, 1, 1, 0, 1, 0, 0, 1, 1, 0, 0, 1, 1, 1, 1, 1]) (m_fieldfarelaw7_QuantAllttttttttthtbltth_k K r0) a H = codeP PP CC (subC (bodyC PP 10) [1, 1, 1, 1, 1, 1, 1, 1, 1, 0, 1, 0, 0, 1, 1, 0, 0, 1, 1, 1, 1, 1, 0]) (m_fieldfarelaw7_QuantAllttttttttthtbltthbttttt_k K r0) a H := by kernel_rfl
  h1.trans (m_fieldfarelaw7_QuantAllttttttttthtbltthbtttttb_eq K r0 a H)
abbrev m_fieldfarelaw7_QuantAllttttttttthtbltthbtttt_k (K : AV → AH → Prop) (r0 : (AV × AV × AV × AV × AV) → AH → Prop) : KP := exP (fun (a : TE) (H : AH) => m_fieldfarelaw7_QuantAllttttttttthtbltthbtttttb K r0 (a 0) (a 8) (a 12) (a 13) (a 66) (a 67) (a 68) (a 87) (a 88) H) (m_fieldfarelaw7_QuantAllttttttttthtbltth_k K r0)
def m_fieldfarelaw7_QuantAllttttttttthtbltthbtttt (K : AV → AH → Prop) (r0 : (AV × AV × AV × AV × AV) → AH → Prop) (x0 x8 x12 x13 x66 x67 x68 : AV) (H : AH) : Prop :=
  outP CC H (w_len PP 28 H x12) fun v1 H1 =>
  m_fieldfarelaw7_QuantAllttttttttthtbltthbtttttb K r0 x0 x8 x12 x13 x66 x67 x68 v1 (.int .i64 0) H1
theorem m_fieldfarelaw7_QuantAllttttttttthtbltthbtttt_eq (K : AV → AH → Prop) (r0 : (AV × AV × AV × AV × AV) → AH → Prop) (a : TE) (H : AH) : codeP PP CC (subC (bodyC PP 10) [1, 1, 1, 1, 1, 1, 1, 1, 1, 0, 1, 0, 0, 1, 1, 0, 0, 1, 1, 1, 1]) (m_fieldfarelaw7_QuantAllttttttttthtbltth_k K r0) a H = m_fieldfarelaw7_QuantAllttttttttthtbltthbtttt K r0 (a 0) (a 8) (a 12) (a 13) (a 66) (a 67) (a 68) H :=
  have h1 : codeP PP CC (subC (bodyC PP 10) [1, 1, 1, 1, 1, 1, 1, 1, 1, 0, 1, 0, 0, 1, 1, 0, 0, 1, 1, 1, 1]) (m_fieldfarelaw7_QuantAllttttttttthtbltth_k K r0) a H = codeP PP CC (subC (bodyC PP 10) [1, 1, 1, 1, 1, 1, 1, 1, 1, 0, 1, 0, 0, 1, 1, 0, 0, 1, 1, 1, 1, 0]) (exP (codeP PP CC (subC (bodyC PP 10) [1, 1, 1, 1, 1, 1, 1, 1, 1, 0, 1, 0, 0, 1, 1, 0, 0, 1, 1, 1, 1, 1]) (m_fieldfarelaw7_QuantAllttttttttthtbltth_k K r0)) (m_fieldfarelaw7_QuantAllttttttttthtbltth_k K r0)) a H := by kernel_rfl
  have h2 : codeP PP CC (subC (bodyC PP 10) [1, 1, 1, 1, 1, 1, 1, 1, 1, 0, 1, 0, 0, 1, 1, 0, 0, 1, 1, 1, 1, 0]) (exP (codeP PP CC (subC (bodyC PP 10) [1, 1, 1, 1, 1, 1, 1, 1, 1, 0, 1, 0, 0, 1, 1, 0, 0, 1, 1, 1, 1, 1]) (m_fieldfarelaw7_QuantAllttttttttthtbltth_k K r0)) (m_fieldfarelaw7_QuantAllttttttttthtbltth_k K r0)) a H = codeP PP CC (subC (bodyC PP 10) [1, 1, 1, 1, 1, 1, 1, 1, 1, 0, 1, 0, 0, 1, 1, 0, 0, 1, 1, 1, 1, 0]) (exP (fun (a : TE) (H : AH) => m_fieldfarelaw7_QuantAllttttttttthtbltthbtttttb K r0 (a 0) (a 8) (a 12) (a 13) (a 66) (a 67) (a 68) (a 87) (a 88) H) (m_fieldfarelaw7_QuantAllttttttttthtbltth_k K r0)) a H := congrArg (fun k : KE => codeP PP CC (subC (bodyC PP 10) [1, 1, 1, 1, 1, 1, 1, 1, 1, 0, 1, 0, 0, 1, 1, 0, 0, 1, 1, 1, 1, 0]) (exP k (m_fieldfarelaw7_QuantAllttttttttthtbltth_k K r0)) a H) (funext fun a => funext fun H => m_fieldfarelaw7_QuantAllttttttttthtbltthbttttt_eq K r0 a H)
  have h2b : codeP PP CC (subC (bodyC PP 10) [1, 1, 1, 1, 1, 1, 1, 1, 1, 0, 1, 0, 0, 1, 1, 0, 0, 1, 1, 1, 1, 0]) (exP (fun (a : TE) (H : AH) => m_fieldfarelaw7_QuantAllttttttttthtbltthbtttttb K r0 (a 0) (a 8) (a 12) (a 13) (a 66) (a 67) (a 68) (a 87) (a 88) H) (m_fieldfarelaw7_QuantAllttttttttthtbltth_k K r0)) a H = codeP PP CC (subC (bodyC PP 10) [1, 1, 1, 1, 1, 1, 1, 1, 1, 0, 1, 0, 0, 1, 1, 0, 0, 1, 1, 1, 1, 0]) (m_fieldfarelaw7_QuantAllttttttttthtbltthbtttt_k K r0) a H := by kernel_rfl
  have h3 : codeP PP CC (subC (bodyC PP 10) [1, 1, 1, 1, 1, 1, 1, 1, 1, 0, 1, 0, 0, 1, 1, 0, 0, 1, 1, 1, 1, 0]) (m_fieldfarelaw7_QuantAllttttttttthtbltthbtttt_k K r0) a H = m_fieldfarelaw7_QuantAllttttttttthtbltthbtttt K r0 (a 0) (a 8) (a 12) (a 13) (a 66) (a 67) (a 68) H := by kernel_rfl
  ((h1.trans h2).trans h2b).trans h3
abbrev m_fieldfarelaw7_QuantAllttttttttthtbltthbttt_k (K : AV → AH → Prop) (r0 : (AV × AV × AV × AV × AV) → AH → Prop) : KP := exP (fun (a : TE) (H : AH) => m_fieldfarelaw7_QuantAllttttttttthtbltthbtttt K r0 (a 0) (a 8) (a 12) (a 13) (a 66) (a 67) (a 68) H) (m_fieldfarelaw7_QuantAllttttttttthtbltth_k K r0)
def m_fieldfarelaw7_QuantAllttttttttthtbltthbttt (K : AV → AH → Prop) (r0 : (AV × AV × AV × AV × AV) → AH → Prop) (x0 x8 x12 x13 x66 x67 x68 : AV) (H : AH) : Prop :=
  outP CC H (w_len PP 28 H x13) fun v1 H1 =>
  outP CC H1 (w_len PP 28 H1 x12) fun v2 H2 =>
  outP CC H2 (w_int .neq H2 v1 v2) fun v3 H3 =>
  condP v3
  (K (.bool false) H3)
  (m_fieldfarelaw7_QuantAllttttttttthtbltthbtttt K r0 x0 x8 x12 x13 x66 x67 x68 H3)
theorem m_fieldfarelaw7_QuantAllttttttttthtbltthbttt_eq (K : AV → AH → Prop) (r0 : (AV × AV × AV × AV × AV) → AH → Prop) (a : TE) (H : AH) : codeP PP CC (subC (bodyC PP 10) [1, 1, 1, 1, 1, 1, 1, 1, 1, 0, 1, 0, 0, 1, 1, 0, 0, 1, 1, 1]) (m_fieldfarelaw7_QuantAllttttttttthtbltth_k K r0) a H = m_fieldfarelaw7_QuantAllttttttttthtbltthbttt K r0 (a 0) (a 8) (a 12) (a 13) (a 66) (a 67) (a 68) H :=
  have h1 : codeP PP CC (subC (bodyC PP 10) [1, 1, 1, 1, 1, 1, 1, 1, 1, 0, 1, 0, 0, 1, 1, 0, 0, 1, 1, 1]) (m_fieldfarelaw7_QuantAllttttttttthtbltth_k K r0) a H = codeP PP CC (subC (bodyC PP 10) [1, 1, 1, 1, 1, 1, 1, 1, 1, 0, 1, 0, 0, 1, 1, 0, 0, 1, 1, 1, 0]) (exP (codeP PP CC (subC (bodyC PP 10) [1, 1, 1, 1, 1, 1, 1, 1, 1, 0, 1, 0, 0, 1, 1, 0, 0, 1, 1, 1, 1]) (m_fieldfarelaw7_QuantAllttttttttthtbltth_k K r0)) (m_fieldfarelaw7_QuantAllttttttttthtbltth_k K r0)) a H := by kernel_rfl
  have h2 : codeP PP CC (subC (bodyC PP 10) [1, 1, 1, 1, 1, 1, 1, 1, 1, 0, 1, 0, 0, 1, 1, 0, 0, 1, 1, 1, 0]) (exP (codeP PP CC (subC (bodyC PP 10) [1, 1, 1, 1, 1, 1, 1, 1, 1, 0, 1, 0, 0, 1, 1, 0, 0, 1, 1, 1, 1]) (m_fieldfarelaw7_QuantAllttttttttthtbltth_k K r0)) (m_fieldfarelaw7_QuantAllttttttttthtbltth_k K r0)) a H = codeP PP CC (subC (bodyC PP 10) [1, 1, 1, 1, 1, 1, 1, 1, 1, 0, 1, 0, 0, 1, 1, 0, 0, 1, 1, 1, 0]) (exP (fun (a : TE) (H : AH) => m_fieldfarelaw7_QuantAllttttttttthtbltthbtttt K r0 (a 0) (a 8) (a 12) (a 13) (a 66) (a 67) (a 68) H) (m_fieldfarelaw7_QuantAllttttttttthtbltth_k K r0)) a H := congrArg (fun k : KE => codeP PP CC (subC (bodyC PP 10) [1, 1, 1, 1, 1, 1, 1, 1, 1, 0, 1, 0, 0, 1, 1, 0, 0, 1, 1, 1, 0]) (exP k (m_fieldfarelaw7_QuantAllttttttttthtbltth_k K r0)) a H) (funext fun a => funext fun H => m_fieldfarelaw7_QuantAllttttttttthtbltthbtttt_eq K r0 a H)
  have h2b : codeP PP CC (subC (bodyC PP 10) [1, 1, 1, 1, 1, 1, 1, 1, 1, 0, 1, 0, 0, 1, 1, 0, 0, 1, 1, 1, 0]) (exP (fun (a : TE) (H : AH) => m_fieldfarelaw7_QuantAllttttttttthtbltthbtttt K r0 (a 0) (a 8) (a 12) (a 13) (a 66) (a 67) (a 68) H) (m_fieldfarelaw7_QuantAllttttttttthtbltth_k K r0)) a H = codeP PP CC (subC (bodyC PP 10) [1, 1, 1, 1, 1, 1, 1, 1, 1, 0, 1, 0, 0, 1, 1, 0, 0, 1, 1, 1, 0]) (m_fieldfarelaw7_QuantAllttttttttthtbltthbttt_k K r0) a H := by kernel_rfl
  have h3 : codeP PP CC (subC (bodyC PP 10) [1, 1, 1, 1, 1, 1, 1, 1, 1, 0, 1, 0, 0, 1, 1, 0, 0, 1, 1, 1, 0]) (m_fieldfarelaw7_QuantAllttttttttthtbltthbttt_k K r0) a H = m_fieldfarelaw7_QuantAllttttttttthtbltthbttt K r0 (a 0) (a 8) (a 12) (a 13) (a 66) (a 67) (a 68) H := by kernel_rfl
  ((h1.trans h2).trans h2b).trans h3
abbrev m_fieldfarelaw7_QuantAllttttttttthtbltthbtt_k (K : AV → AH → Prop) (r0 : (AV × AV × AV × AV × AV) → AH → Prop) : KP := exP (fun (a : TE) (H : AH) => m_fieldfarelaw7_QuantAllttttttttthtbltthbttt K r0 (a 0) (a 8) (a 12) (a 13) (a 66) (a 67) (a 68) H) (m_fieldfarelaw7_QuantAllttttttttthtbltth_k K r0)
def m_fieldfarelaw7_QuantAllttttttttthtbltthbtt (K : AV → AH → Prop) (r0 : (AV × AV × AV × AV × AV) → AH → Prop) (x0 x8 x12 x66 x67 x68 : AV) (H : AH) : Prop :=
  outP CC H (w_load (some 2) H x8) fun v1 H1 =>
  outP CC H1 (w_load (some 2) H1 x8) fun v2 H2 =>
  outP CC H2 (some (.enter 39 [v2, x12])) fun v3 H3 =>
  ckP (reC true (w_load (some 2) H3 x8) v1) <|
  outP CC H3 (some (.enter 41 [v1, v3])) fun v4 H4 =>
  m_fieldfarelaw7_QuantAllttttttttthtbltthbttt K r0 x0 x8 x12 v4 x66 x67 x68 H4
theorem m_fieldfarelaw7_QuantAllttttttttthtbltthbtt_eq (K : AV → AH → Prop) (r0 : (AV × AV × AV × AV × AV) → AH → Prop) (a : TE) (H : AH) : codeP PP CC (subC (bodyC PP 10) [1, 1, 1, 1, 1, 1, 1, 1, 1, 0, 1, 0, 0, 1, 1, 0, 0, 1, 1]) (m_fieldfarelaw7_QuantAllttttttttthtbltth_k K r0) a H = m_fieldfarelaw7_QuantAllttttttttthtbltthbtt K r0 (a 0) (a 8) (a 12) (a 66) (a 67) (a 68) H :=
  have h1 : codeP PP CC (subC (bodyC PP 10) [1, 1, 1, 1, 1, 1, 1, 1, 1, 0, 1, 0, 0, 1, 1, 0, 0, 1, 1]) (m_fieldfarelaw7_QuantAllttttttttthtbltth_k K r0) a H = codeP PP CC (subC (bodyC PP 10) [1, 1, 1, 1, 1, 1, 1, 1, 1, 0, 1, 0, 0, 1, 1, 0, 0, 1, 1, 0]) (exP (codeP PP CC (subC (bodyC PP 10) [1, 1, 1, 1, 1, 1, 1, 1, 1, 0, 1, 0, 0, 1, 1, 0, 0, 1, 1, 1]) (m_fieldfarelaw7_QuantAllttttttttthtbltth_k K r0)) (m_fieldfarelaw7_QuantAllttttttttthtbltth_k K r0)) a H := by kernel_rfl
  have h2 : codeP PP CC (subC (bodyC PP 10) [1, 1, 1, 1, 1, 1, 1, 1, 1, 0, 1, 0, 0, 1, 1, 0, 0, 1, 1, 0]) (exP (codeP PP CC (subC (bodyC PP 10) [1, 1, 1, 1, 1, 1, 1, 1, 1, 0, 1, 0, 0, 1, 1, 0, 0, 1, 1, 1]) (m_fieldfarelaw7_QuantAllttttttttthtbltth_k K r0)) (m_fieldfarelaw7_QuantAllttttttttthtbltth_k K r0)) a H = codeP PP CC (subC (bodyC PP 10) [1, 1, 1, 1, 1, 1, 1, 1, 1, 0, 1, 0, 0, 1, 1, 0, 0, 1, 1, 0]) (exP (fun (a : TE) (H : AH) => m_fieldfarelaw7_QuantAllttttttttthtbltthbttt K r0 (a 0) (a 8) (a 12) (a 13) (a 66) (a 67) (a 68) H) (m_fieldfarelaw7_QuantAllttttttttthtbltth_k K r0)) a H := congrArg (fun k : KE => codeP PP CC (subC (bodyC PP 10) [1, 1, 1, 1, 1, 1, 1, 1, 1, 0, 1, 0, 0, 1, 1, 0, 0, 1, 1, 0]) (exP k (m_fieldfarelaw7_QuantAllttttttttthtbltth_k K r0)) a H) (funext fun a => funext fun H => m_fieldfarelaw7_QuantAllttttttttthtbltthbttt_eq K r0 a H)
  have h2b : codeP PP CC (subC (bodyC PP 10) [1, 1, 1, 1, 1, 1, 1, 1, 1, 0, 1, 0, 0, 1, 1, 0, 0, 1, 1, 0]) (exP (fun (a : TE) (H : AH) => m_fieldfarelaw7_QuantAllttttttttthtbltthbttt K r0 (a 0) (a 8) (a 12) (a 13) (a 66) (a 67) (a 68) H) (m_fieldfarelaw7_QuantAllttttttttthtbltth_k K r0)) a H = codeP PP CC (subC (bodyC PP 10) [1, 1, 1, 1, 1, 1, 1, 1, 1, 0, 1, 0, 0, 1, 1, 0, 0, 1, 1, 0]) (m_fieldfarelaw7_QuantAllttttttttthtbltthbtt_k K r0) a H := by kernel_rfl
  have h3 : codeP PP CC (subC (bodyC PP 10) [1, 1, 1, 1, 1, 1, 1, 1, 1, 0, 1, 0, 0, 1, 1, 0, 0, 1, 1, 0]) (m_fieldfarelaw7_QuantAllttttttttthtbltthbtt_k K r0) a H = m_fieldfarelaw7_QuantAllttttttttthtbltthbtt K r0 (a 0) (a 8) (a 12) (a 66) (a 67) (a 68) H := by kernel_rfl
  ((h1.trans h2).trans h2b).trans h3
abbrev m_fieldfarelaw7_QuantAllttttttttthtbltthbt_k (K : AV → AH → Prop) (r0 : (AV × AV × AV × AV × AV) → AH → Prop) : KP := exP (fun (a : TE) (H : AH) => m_fieldfarelaw7_QuantAllttttttttthtbltthbtt K r0 (a 0) (a 8) (a 12) (a 66) (a 67) (a 68) H) (m_fieldfarelaw7_QuantAllttttttttthtbltth_k K r0)
def m_fieldfarelaw7_QuantAllttttttttthtbltthbt (K : AV → AH → Prop) (r0 : (AV × AV × AV × AV × AV) → AH → Prop) (x0 x8 x12 x66 x67 x68 : AV) (H : AH) : Prop :=
  outP CC H (some (.enter 43 [x12, x0])) fun v1 H1 =>
  outP CC H1 (w_un .not H1 v1) fun v2 H2 =>
  condP v2
  (outP CC H2 (w_int .add H2 x68 (.int .i64 1)) fun v3 H3 =>
  r0 (x0, x8, x66, x67, v3) H3)
  (m_fieldfarelaw7_QuantAllttttttttthtbltthbtt K r0 x0 x8 x12 x66 x67 x68 H2)
theorem m_fieldfarelaw7_QuantAllttttttttthtbltthbt_eq (K : AV → AH → Prop) (r0 : (AV × AV × AV × AV × AV) → AH → Prop) (a : TE) (H : AH) : codeP PP CC (subC (bodyC PP 10) [1, 1, 1, 1, 1, 1, 1, 1, 1, 0, 1, 0, 0, 1, 1, 0, 0, 1]) (m_fieldfarelaw7_QuantAllttttttttthtbltth_k K r0) a H = m_fieldfarelaw7_QuantAllttttttttthtbltthbt K r0 (a 0) (a 8) (a 12) (a 66) (a 67) (a 68) H :=
  have h1 : codeP PP CC (subC (bodyC PP 10) [1, 1, 1, 1, 1, 1, 1, 1, 1, 0, 1, 0, 0, 1, 1, 0, 0, 1]) (m_fieldfarelaw7_QuantAllttttttttthtbltth_k K r0) a H = codeP PP CC (subC (bodyC PP 10) [1, 1, 1, 1, 1, 1, 1, 1, 1, 0, 1, 0, 0, 1, 1, 0, 0, 1, 0]) (exP (codeP PP CC (subC (bodyC PP 10) [1, 1, 1, 1, 1, 1, 1, 1, 1, 0, 1, 0, 0, 1, 1, 0, 0, 1, 1]) (m_fieldfarelaw7_QuantAllttttttttthtbltth_k K r0)) (m_fieldfarelaw7_QuantAllttttttttthtbltth_k K r0)) a H := by kernel_rfl
  have h2 : codeP PP CC (subC (bodyC PP 10) [1, 1, 1, 1, 1, 1, 1, 1, 1, 0, 1, 0, 0, 1, 1, 0, 0, 1, 0]) (exP (codeP PP CC (subC (bodyC PP 10) [1, 1, 1, 1, 1, 1, 1, 1, 1, 0, 1, 0, 0, 1, 1, 0, 0, 1, 1]) (m_fieldfarelaw7_QuantAllttttttttthtbltth_k K r0)) (m_fieldfarelaw7_QuantAllttttttttthtbltth_k K r0)) a H = codeP PP CC (subC (bodyC PP 10) [1, 1, 1, 1, 1, 1, 1, 1, 1, 0, 1, 0, 0, 1, 1, 0, 0, 1, 0]) (exP (fun (a : TE) (H : AH) => m_fieldfarelaw7_QuantAllttttttttthtbltthbtt K r0 (a 0) (a 8) (a 12) (a 66) (a 67) (a 68) H) (m_fieldfarelaw7_QuantAllttttttttthtbltth_k K r0)) a H := congrArg (fun k : KE => codeP PP CC (subC (bodyC PP 10) [1, 1, 1, 1, 1, 1, 1, 1, 1, 0, 1, 0, 0, 1, 1, 0, 0, 1, 0]) (exP k (m_fieldfarelaw7_QuantAllttttttttthtbltth_k K r0)) a H) (funext fun a => funext fun H => m_fieldfarelaw7_QuantAllttttttttthtbltthbtt_eq K r0 a H)
  have h2b : codeP PP CC (subC (bodyC PP 10) [1, 1, 1, 1, 1, 1, 1, 1, 1, 0, 1, 0, 0, 1, 1, 0, 0, 1, 0]) (exP (fun (a : TE) (H : AH) => m_fieldfarelaw7_QuantAllttttttttthtbltthbtt K r0 (a 0) (a 8) (a 12) (a 66) (a 67) (a 68) H) (m_fieldfarelaw7_QuantAllttttttttthtbltth_k K r0)) a H = codeP PP CC (subC (bodyC PP 10) [1, 1, 1, 1, 1, 1, 1, 1, 1, 0, 1, 0, 0, 1, 1, 0, 0, 1, 0]) (m_fieldfarelaw7_QuantAllttttttttthtbltthbt_k K r0) a H := by kernel_rfl
  have h3 : codeP PP CC (subC (bodyC PP 10) [1, 1, 1, 1, 1, 1, 1, 1, 1, 0, 1, 0, 0, 1, 1, 0, 0, 1, 0]) (m_fieldfarelaw7_QuantAllttttttttthtbltthbt_k K r0) a H = m_fieldfarelaw7_QuantAllttttttttthtbltthbt K r0 (a 0) (a 8) (a 12) (a 66) (a 67) (a 68) H := by kernel_rfl
  ((h1.trans h2).trans h2b).trans h3
abbrev m_fieldfarelaw7_QuantAllttttttttthtbltthb_k (K : AV → AH → Prop) (r0 : (AV × AV × AV × AV × AV) → AH → Prop) : KP := exP (fun (a : TE) (H : AH) => m_fieldfarelaw7_QuantAllttttttttthtbltthbt K r0 (a 0) (a 8) (a 12) (a 66) (a 67) (a 68) H) (m_fieldfarelaw7_QuantAllttttttttthtbltth_k K r0)
def m_fieldfarelaw7_QuantAllttttttttthtbltthb (K : AV → AH → Prop) (r0 : (AV × AV × AV × AV × AV) → AH → Prop) (x0 x8 x66 x67 x68 : AV) (H : AH) : Prop :=
  outP CC H (w_indexAddr (.sl 1) H x66 x68) fun v1 H1 =>
  outP CC H1 (w_load none H1 v1) fun v2 H2 =>
  m_fieldfarelaw7_QuantAllttttttttthtbltthbt K r0 x0 x8 v2 x66 x67 x68 H2
theorem m_fieldfarelaw7_QuantAllttttttttthtbltthb_eq (K : AV → AH → Prop) (r0 : (AV × AV × AV × AV × AV) → AH → Prop) (a : TE) (H : AH) : codeP PP CC (subC (bodyC PP 10) [1, 1, 1, 1, 1, 1, 1, 1, 1, 0, 1, 0, 0, 1, 1, 0, 0]) (m_fieldfarelaw7_QuantAllttttttttthtbltth_k K r0) a H = m_fieldfarelaw7_QuantAllttttttttthtbltthb K r0 (a 0) (a 8) (a 66) (a 67) (a 68) H :=
  have h1 : codeP PP CC (subC (bodyC PP 10) [1, 1, 1, 1, 1, 1, 1, 1, 1, 0, 1, 0, 0, 1, 1, 0, 0]) (m_fieldfarelaw7_QuantAllttttttttthtbltth_k K r0) a H = codeP PP CC (subC (bodyC PP 10) [1, 1, 1, 1, 1, 1, 1, 1, 1, 0, 1, 0, 0, 1, 1, 0, 0, 0]) (exP (codeP PP CC (subC (bodyC PP 10) [1, 1, 1, 1, 1, 1, 1, 1, 1, 0, 1, 0, 0, 1, 1, 0, 0, 1]) (m_fieldfarelaw7_QuantAllttttttttthtbltth_k K r0)) (m_fieldfarelaw7_QuantAllttttttttthtbltth_k K r0)) a H := by kernel_rfl
  have h2 : codeP PP CC (subC (bodyC PP 10) [1, 1, 1, 1, 1, 1, 1, 1, 1, 0, 1, 0, 0, 1, 1, 0, 0, 0]) (exP (codeP PP CC (subC (bodyC PP 10) [1, 1, 1, 1, 1, 1, 1, 1, 1, 0, 1, 0, 0, 1, 1, 0, 0, 1]) (m_fieldfarelaw7_QuantAllttttttttthtbltth_k K r0)) (m_fieldfarelaw7_QuantAllttttttttthtbltth_k K r0)) a H = codeP PP CC (subC (bodyC PP 10) [1, 1, 1, 1, 1, 1, 1, 1, 1, 0, 1, 0, 0, 1, 1, 0, 0, 0]) (exP (fun (a : TE) (H : AH) => m_fieldfarelaw7_QuantAllttttttttthtbltthbt K r0 (a 0) (a 8) (a 12) (a 66) (a 67) (a 68) H) (m_fieldfarelaw7_QuantAllttttttttthtbltth_k K r0)) a H := congrArg (fun k : KE => codeP PP CC (subC (bodyC PP 10) [1, 1, 1, 1, 1, 1, 1, 1, 1, 0, 1, 0, 0, 1, 1, 0, 0, 0]) (exP k (m_fieldfarelaw7_QuantAllttttttttthtbltth_k K r0)) a H) (funext fun a => funext fun H => m_fieldfarelaw7_QuantAllttttttttthtbltthbt_eq K r0 a H)
  have h2b : codeP PP CC (subC (bodyC PP 10) [1, 1, 1, 1, 1, 1, 1, 1, 1, 0, 1, 0, 0, 1, 1, 0, 0, 0]) (exP (fun (a : TE) (H : AH) => m_fieldfarelaw7_QuantAllttttttttthtbltthbt K r0 (a 0) (a 8) (a 12) (a 66) (a 67) (a 68) H) (m_fieldfarelaw7_QuantAllttttttttthtbltth_k K r0)) a H = codeP PP CC (subC (bodyC PP 10) [1, 1, 1, 1, 1, 1, 1, 1, 1, 0, 1, 0, 0, 1, 1, 0, 0, 0]) (m_fieldfarelaw7_QuantAllttttttttthtbltthb_k K r0) a H := by kernel_rfl
  have h3 : codeP PP CC (subC (bodyC PP 10) [1, 1, 1, 1, 1, 1, 1, 1, 1, 0, 1, 0, 0, 1, 1, 0, 0, 0]) (m_fieldfarelaw7_QuantAllttttttttthtbltthb_k K r0) a H = m_fieldfarelaw7_QuantAllttttttttthtbltthb K r0 (a 0) (a 8) (a 66) (a 67) (a 68) H := by kernel_rfl
  ((h1.trans h2).trans h2b).trans h3
theorem m_fieldfarelaw7_QuantAllttttttttthtbltth_eq (K : AV → AH → Prop) (r0 : (AV × AV × AV × AV × AV) → AH → Prop) (a : TE) (H : AH) : codeP PP CC (subC (bodyC PP 10) [1, 1, 1, 1, 1, 1, 1, 1, 1, 0, 1, 0, 0, 1, 1, 0]) (m_fieldfarelaw7_QuantAllttttttttthtbltt_k K r0) a H = m_fieldfarelaw7_QuantAllttttttttthtbltthb K r0 (a 0) (a 8) (a 66) (a 67) (a 68) H :=
  have h1 : codeP PP CC (subC (bodyC PP 10) [1, 1, 1, 1, 1, 1, 1, 1, 1, 0, 1, 0, 0, 1, 1, 0]) (m_fieldfarelaw7_QuantAllttttttttthtbltt_k K r0) a H = codeP PP CC (subC (bodyC PP 10) [1, 1, 1, 1, 1, 1, 1, 1, 1, 0, 1, 0, 0, 1, 1, 0, 0]) (m_fieldfarelaw7_QuantAllttttttttthtbltth_k K r0) a H := by kernel_rfl
  h1.trans (m_fieldfarelaw7_QuantAllttttttttthtbltthb_eq K r0 a H)
theorem m_fieldfarelaw7_QuantAllttttttttthtbltt_eq (K : AV → AH → Prop) (r0 : (AV × AV × AV × AV × AV) → AH → Prop) (a : TE) (H : AH) : codeP PP CC (subC (bodyC PP 10) [1, 1, 1, 1, 1, 1, 1, 1, 1, 0, 1, 0, 0, 1, 1]) (m_fieldfarelaw7_QuantAllttttttttthtb_k K r0) a H = m_fieldfarelaw7_QuantAllttttttttthtbltthb K r0 (a 0) (a 8) (a 66) (a 67) (a 68) H :=
  have h1 : codeP PP CC (subC (bodyC PP 10) [1, 1, 1, 1, 1, 1, 1, 1, 1, 0, 1, 0, 0, 1, 1]) (m_fieldfarelaw7_QuantAllttttttttthtb_k K r0) a H = codeP PP CC (subC (bodyC PP 10) [1, 1, 1, 1, 1, 1, 1, 1, 1, 0, 1, 0, 0, 1, 1, 0]) (m_fieldfarelaw7_QuantAllttttttttthtbltt_k K r0) a H := by kernel_rfl
  h1.trans (m_fieldfarelaw7_QuantAllttttttttthtbltth_eq K r0 a H)
abbrev m_fieldfarelaw7_QuantAllttttttttthtblt_k (K : AV → AH → Prop) (r0 : (AV × AV × AV × AV × AV) → AH → Prop) : KP := exP (fun (a : TE) (H : AH) => m_fieldfarelaw7_QuantAllttttttttthtbltthb K r0 (a 0) (a 8) (a 66) (a 67) (a 68) H) (m_fieldfarelaw7_QuantAllttttttttthtb_k K r0)
def m_fieldfarelaw7_QuantAllttttttttthtblt (K : AV → AH → Prop) (r0 : (AV × AV × AV × AV × AV) → AH → Prop) (x0 x8 x66 x67 x68 x69 : AV) (H : AH) : Prop :=
  condP x69
  (m_fieldfarelaw7_QuantAllttttttttthtbltthb K r0 x0 x8 x66 x67 x68 H)
  (K (.bool true) H)
theorem m_fieldfarelaw7_QuantAllttttttttthtblt_eq (K : AV → AH → Prop) (r0 : (AV × AV × AV × AV × AV) → AH → Prop) (a : TE) (H : AH) : codeP PP CC (subC (bodyC PP 10) [1, 1, 1, 1, 1, 1, 1, 1, 1, 0, 1, 0, 0, 1]) (m_fieldfarelaw7_QuantAllttttttttthtb_k K r0) a H = m_fieldfarelaw7_QuantAllttttttttthtblt K r0 (a 0) (a 8) (a 66) (a 67) (a 68) (a 69) H :=
  have h1 : codeP PP CC (subC (bodyC PP 10) [1, 1, 1, 1, 1, 1, 1, 1, 1, 0, 1, 0, 0, 1]) (m_fieldfarelaw7_QuantAllttttttttthtb_k K r0) a H = codeP PP CC (subC (bodyC PP 10) [1, 1, 1, 1, 1, 1, 1, 1, 1, 0, 1, 0, 0, 1, 0]) (exP (codeP PP CC (subC (bodyC PP 10) [1, 1, 1, 1, 1, 1, 1, 1, 1, 0, 1, 0, 0, 1, 1]) (m_fieldfarelaw7_QuantAllttttttttthtb_k K r0)) (m_fieldfarelaw7_QuantAllttttttttthtb_k K r0)) a H := by kernel_rfl
  have h2 : codeP PP CC (subC (bodyC PP 10) [1, 1, 1, 1, 1, 1, 1, 1, 1, 0, 1, 0, 0, 1, 0]) (exP (codeP PP CC (subC (bodyC PP 10) [1, 1, 1, 1, 1, 1, 1, 1, 1, 0, 1, 0, 0, 1, 1]) (m_fieldfarelaw7_QuantAllttttttttthtb_k K r0)) (m_fieldfarelaw7_QuantAllttttttttthtb_k K r0)) a H = codeP PP CC (subC (bodyC PP 10) [1, 1, 1, 1, 1, 1, 1, 1, 1, 0, 1, 0, 0, 1, 0]) (exP (fun (a : TE) (H : AH) => m_fieldfarelaw7_QuantAllttttttttthtbltthb K r0 (a 0) (a 8) (a 66) (a 67) (a 68) H) (m_fieldfarelaw7_QuantAllttttttttthtb_k K r0)) a H := congrArg (fun k : KE => codeP PP CC (subC (bodyC PP 10) [1, 1, 1, 1, 1, 1, 1, 1, 1, 0, 1, 0, 0, 1, 0]) (exP k (m_fieldfarelaw7_QuantAllttttttttthtb_k K r0)) a H) (funext fun a => funext fun H => m_fieldfarelaw7_QuantAllttttttttthtbltt_eq K r0 a H)
  have h2b : codeP PP CC (subC (bodyC PP 10) [1, 1, 1, 1, 1, 1, 1, 1, 1, 0, 1, 0, 0, 1, 0]) (exP (fun (a : TE) (H : AH) => m_fieldfarelaw7_QuantAllttttttttthtbltthb K r0 (a 0) (a 8) (a 66) (a 67) (a 68) H) (m_fieldfarelaw7_QuantAllttttttttthtb_k K r0)) a H = codeP PP CC (subC (bodyC PP 10) [1, 1, 1, 1, 1, 1, 1, 1, 1, 0, 1, 0, 0, 1, 0]) (m_fieldfarelaw7_QuantAllttttttttthtblt_k K r0) a H := by kernel_rfl
  have h3 : codeP PP CC (subC (bodyC PP 10) [1, 1, 1, 1, 1, 1, 1, 1, 1, 0, 1, 0, 0, 1, 0]) (m_fieldfarelaw7_QuantAllttttttttthtblt_k K r0) a H = m_fieldfarelaw7_QuantAllttttttttthtblt K r0 (a 0) (a 8) (a 66) (a 67) (a 68) (a 69) H := by kernel_rfl
  ((h1.trans h2).trans h2b).trans h3
abbrev m_fieldfarelaw7_QuantAllttttttttthtbl_k (K : AV → AH → Prop) (r0 : (AV × AV × AV × AV × AV) → AH → Prop) : KP := exP (fun (a : TE) (H : AH) => m_fieldfarelaw7_QuantAllttttttttthtblt K r0 (a 0) (a 8) (a 66) (a 67) (a 68) (a 69) H) (m_fieldfarelaw7_QuantAllttttttttthtb_k K r0)
def m_fieldfarelaw7_QuantAllttttttttthtbl (K : AV → AH → Prop) (r0 : (AV × AV × AV × AV × AV) → AH → Prop) (x0 x8 x66 x67 x68 : AV) (H : AH) : Prop :=
  outP CC H (w_int .lss H x68 x67) fun v1 H1 =>
  m_fieldfarelaw7_QuantAllttttttttthtblt K r0 x0 x8 x66 x67 x68 v1 H1
theorem m_fieldfarelaw7_QuantAllttttttttthtbl_eq (K : AV → AH → Prop) (r0 : (AV × AV × AV × AV × AV) → AH → Prop) (a : TE) (H : AH) : codeP PP CC (subC (bodyC PP 10) [1, 1, 1, 1, 1, 1, 1, 1, 1, 0, 1, 0, 0]) (m_fieldfarelaw7_QuantAllttttttttthtb_k K r0) a H = m_fieldfarelaw7_QuantAllttttttttthtbl K r0 (a 0) (a 8) (a 66) (a 67) (a 68) H :=
  have h1 : codeP PP CC (subC (bodyC PP 10) [1, 1, 1, 1, 1, 1, 1, 1, 1, 0, 1, 0, 0]) (m_fieldfarelaw7_QuantAllttttttttthtb_k K r0) a H = codeP PP CC (subC (bodyC PP 10) [1, 1, 1, 1, 1, 1, 1, 1, 1, 0, 1, 0, 0, 0]) (exP (codeP PP CC (subC (bodyC PP 10) [1, 1, 1, 1, 1, 1, 1, 1, 1, 0, 1, 0, 0, 1]) (m_fieldfarelaw7_QuantAllttttttttthtb_k K r0)) (m_fieldfarelaw7_QuantAllttttttttthtb_k K r0)) a H := by kernel_rfl
  have h2 : codeP PP CC (subC (bodyC PP 10) [1, 1, 1, 1, 1, 1, 1, 1, 1, 0, 1, 0, 0, 0]) (exP (codeP PP CC (subC (bodyC PP 10) [1, 1, 1, 1, 1, 1, 1, 1, 1, 0, 1, 0, 0, 1]) (m_fieldfarelaw7_QuantAllttttttttthtb_k K r0)) (m_fieldfarelaw7_QuantAllttttttttthtb_k K r0)) a H = codeP PP CC (subC (bodyC PP 10) [1, 1, 1, 1, 1, 1, 1, 1, 1, 0, 1, 0, 0, 0]) (exP (fun (a : TE) (H : AH) => m_fieldfarelaw7_QuantAllttttttttthtblt K r0 (a 0) (a 8) (a 66) (a 67) (a 68) (a 69) H) (m_fieldfarelaw7_QuantAllttttttttthtb_k K r0)) a H := congrArg (fun k : KE => codeP PP CC (subC (bodyC PP 10) [1, 1, 1, 1, 1, 1, 1, 1, 1, 0, 1, 0, 0, 0]) (exP k (m_fieldfarelaw7_QuantAllttttttttthtb_k K r0)) a H) (funext fun a => funext fun H => m_fieldfarelaw7_QuantAllttttttttthtblt_eq K r0 a H)
  have h2b : codeP PP CC (subC (bodyC PP 10) [1, 1, 1, 1, 1, 1, 1, 1, 1, 0, 1, 0, 0, 0]) (exP (fun (a : TE) (H : AH) => m_fieldfarelaw7_QuantAllttttttttthtblt K r0 (a 0) (a 8) (a 66) (a 67) (a 68) (a 69) H) (m_fieldfarelaw7_QuantAllttttttttthtb_k K r0)) a H = codeP PP CC (subC (bodyC PP 10) [1, 1, 1, 1, 1, 1, 1, 1, 1, 0, 1, 0, 0, 0]) (m_fieldfarelaw7_QuantAllttttttttthtbl_k K r0) a H := by kernel_rfl
  have h3 : codeP PP CC (subC (bodyC PP 10) [1, 1, 1, 1, 1, 1, 1, 1, 1, 0, 1, 0, 0, 0]) (m_fieldfarelaw7_QuantAllttttttttthtbl_k K r0) a H = m_fieldfarelaw7_QuantAllttttttttthtbl K r0 (a 0) (a 8) (a 66) (a 67) (a 68) H := by kernel_rfl
  ((h1.trans h2).trans h2b).trans h3
def m_fieldfarelaw7_QuantAllttttttttthtb (K : AV → AH → Prop) (x0 x8 x66 x67 x68 : AV) (H : AH) : Prop :=
  loopP (fun (r0 : (AV × AV × AV × AV × AV) → AH → Prop) (s : (AV × AV × AV × AV × AV)) (H : AH) => m_fieldfarelaw7_QuantAllttttttttthtbl K r0 s.1 s.2.1 s.2.2.1 s.2.2.2.1 s.2.2.2.2 H) (x0, x8, x66, x67, x68) H
theorem m_fieldfarelaw7_QuantAllttttttttthtb_eq (K : AV → AH → Prop) (a : TE) (H : AH) : codeP PP CC (subC (bodyC PP 10) [1, 1, 1, 1, 1, 1, 1, 1, 1, 0, 1, 0]) (m_fieldfarelaw7_QuantAlltttttttttht_k K) a H = m_fieldfarelaw7_QuantAllttttttttthtb K (a 0) (a 8) (a 66) (a 67) (a 68) H :=
  have h1 : codeP PP CC (subC (bodyC PP 10) [1, 1, 1, 1, 1, 1, 1, 1, 1, 0, 1, 0]) (m_fieldfarelaw7_QuantAlltttttttttht_k K) a H = loopP (fun (rec : KE) => codeP PP CC (subC (bodyC PP 10) [1, 1, 1, 1, 1, 1, 1, 1, 1, 0, 1, 0, 0]) (exP rec (m_fieldfarelaw7_QuantAlltttttttttht_k K))) a H := by kernel_rfl
  have h2 := loopP_iso (F := fun (rec : KE) => codeP PP CC (subC (bodyC PP 10) [1, 1, 1, 1, 1, 1, 1, 1, 1, 0, 1, 0, 0]) (exP rec (m_fieldfarelaw7_QuantAlltttttttttht_k K))) (S := (AV × AV × AV × AV × AV)) (fun a => (a 0, a 8, a 66, a 67, a 68)) (fun (r0 : (AV × AV × AV × AV × AV) → AH → Prop) (s : (AV × AV × AV × AV × AV)) (H : AH) => m_fieldfarelaw7_QuantAllttttttttthtbl K r0 s.1 s.2.1 s.2.2.1 s.2.2.2.1 s.2.2.2.2 H) (fun (r0 : (AV × AV × AV × AV × AV) → AH → Prop) (a : TE) (H : AH) => (show codeP PP CC (subC (bodyC PP 10) [1, 1, 1, 1, 1, 1, 1, 1, 1, 0, 1, 0, 0]) (exP (fun (a : TE) (H : AH) => r0 (a 0, a 8, a 66, a 67, a 68) H) (m_fieldfarelaw7_QuantAlltttttttttht_k K)) a H = codeP PP CC (subC (bodyC PP 10) [1, 1, 1, 1, 1, 1, 1, 1, 1, 0, 1, 0, 0]) (m_fieldfarelaw7_QuantAllttttttttthtb_k K r0) a H from by kernel_rfl).trans (m_fieldfarelaw7_QuantAllttttttttthtbl_eq K r0 a H)) a H
  h1.trans h2
theorem m_fieldfarelaw7_QuantAlltttttttttht_eq (K : AV → AH → Prop) (a : TE) (H : AH) : codeP PP CC (subC (bodyC PP 10) [1, 1, 1, 1, 1, 1, 1, 1, 1, 0, 1]) (m_fieldfarelaw7_QuantAllttttttttt_k K) a H = m_fieldfarelaw7_QuantAllttttttttthtb K (a 0) (a 8) (a 66) (a 67) (a 68) H :=
  have h1 : codeP PP CC (subC (bodyC PP 10) [1, 1, 1, 1, 1, 1, 1, 1, 1, 0, 1]) (m_fieldfarelaw7_QuantAllttttttttt_k K) a H = codeP PP CC (subC (bodyC PP 10) [1, 1, 1, 1, 1, 1, 1, 1, 1, 0, 1, 0]) (m_fieldfarelaw7_QuantAlltttttttttht_k K) a H := by kernel_rfl
  h1.trans (m_fieldfarelaw7_QuantAllttttttttthtb_eq K a H)
abbrev m_fieldfarelaw7_QuantAllttttttttth_k (K : AV → AH → Prop) : KP := exP (fun (a : TE) (H : AH) => m_fieldfarelaw7_QuantAllttttttttthtb K (a 0) (a 8) (a 66) (a 67) (a 68) H) (m_fieldfarelaw7_QuantAllttttttttt_k K)
def m_fieldfarelaw7_QuantAllttttttttth (K : AV → AH → Prop) (x0 x1 x8 : AV) (H : AH) : Prop :=
  outP CC H (w_len PP 22 H x1) fun v1 H1 =>
  m_fieldfarelaw7_QuantAllttttttttthtb K x0 x8 x1 v1 (.int .i64 0) H1
theorem m_fieldfarelaw7_QuantAllttttttttth_eq (K : AV → AH → Prop) (a : TE) (H : AH) : codeP PP CC (subC (bodyC PP 10) [1, 1, 1, 1, 1, 1, 1, 1, 1, 0]) (m_fieldfarelaw7_QuantAllttttttttt_k K) a H = m_fieldfarelaw7_QuantAllttttttttth K (a 0) (a 1) (a 8) H :=
  have h1 : codeP PP CC (subC (bodyC PP 10) [1, 1, 1, 1, 1, 1, 1, 1, 1, 0]) (m_fieldfarelaw7_QuantAllttttttttt_k K) a H = codeP PP CC (subC (bodyC PP 10) [1, 1, 1, 1, 1, 1, 1, 1, 1, 0, 0]) (exP (codeP PP CC (subC (bodyC PP 10) [1, 1, 1, 1, 1, 1, 1, 1, 1, 0, 1]) (m_fieldfarelaw7_QuantAllttttttttt_k K)) (m_fieldfarelaw7_QuantAllttttttttt_k K)) a H := by kernel_rfl
  have h2 : codeP PP CC (subC (bodyC PP 10) [1, 1, 1, 1, 1, 1, 1, 1, 1, 0, 0]) (exP (codeP PP CC (subC (bodyC PP 10) [1, 1, 1, 1, 1, 1, 1, 1, 1, 0, 1]) (m_fieldfarelaw7_QuantAllttttttttt_k K)) (m_fieldfarelaw7_QuantAllttttttttt_k K)) a H = codeP PP CC (subC (bodyC PP 10) [1, 1, 1, 1, 1, 1, 1, 1, 1, 0, 0]) (exP (fun (a : TE) (H : AH) => m_fieldfarelaw7_QuantAllttttttttthtb K (a 0) (a 8) (a 66) (a 67) (a 68) H) (m_fieldfarelaw7_QuantAllttttttttt_k K)) a H := congrArg (fun k : KE => codeP PP CC (subC (bodyC PP 10) [1, 1, 1, 1, 1, 1, 1, 1, 1, 0, 0]) (exP k (m_fieldfarelaw7_QuantAllttttttttt_k K)) a H) (funext fun a => funext fun H => m_fieldfarelaw7_QuantAlltttttttttht_eq K a H)
  have h2b : codeP PP CC (subC (bodyC PP 10) [1, 1, 1, 1, 1, 1, 1, 1, 1, 0, 0]) (exP (fun (a : TE) (H : AH) => m_fieldfarelaw7_QuantAllttttttttthtb K (a 0) (a 8) (a 66) (a 67) (a 68) H) (m_fieldfarelaw7_QuantAllttttttttt_k K)) a H = codeP PP CC (subC (bodyC PP 10) [1, 1, 1, 1, 1, 1, 1, 1, 1, 0, 0]) (m_fieldfarelaw7_QuantAllttttttttth_k K) a H := by kernel_rfl
  have h3 : codeP PP CC (subC (bodyC PP 10) [1, 1, 1, 1, 1, 1, 1, 1, 1, 0, 0]) (m_fieldfarelaw7_QuantAllttttttttth_k K) a H = m_fieldfarelaw7_QuantAllttttttttth K (a 0) (a 1) (a 8) H := by kernel_rfl
  ((h1.trans h2).trans h2b).trans h3
theorem m_fieldfarelaw7_QuantAllttttttttt_eq (K : AV → AH → Prop) (a : TE) (H : AH) : codeP PP CC (subC (bodyC PP 10) [1, 1, 1, 1, 1, 1, 1, 1, 1]) (m_fieldfarelaw7_QuantAll_K K) a H = m_fieldfarelaw7_QuantAllttttttttth K (a 0) (a 1) (a 8) H :=
  have h1 : codeP PP CC (subC (bodyC PP 10) [1, 1, 1, 1, 1, 1, 1, 1, 1]) (m_fieldfarelaw7_QuantAll_K K) a H = codeP PP CC (subC (bodyC PP 10) [1, 1, 1, 1, 1, 1, 1, 1, 1, 0]) (m_fieldfarelaw7_QuantAllttttttttt_k K) a H := by kernel_rfl
  h1.trans (m_fieldfarelaw7_QuantAllttttttttth_eq K a H)
abbrev m_fieldfarelaw7_QuantAlltttttttt_k (K : AV → AH → Prop) : KP := exP (fun (a : TE) (H : AH) => m_fieldfarelaw7_QuantAllttttttttth K (a 0) (a 1) (a 8) H) (m_fieldfarelaw7_QuantAll_K K)
def m_fieldfarelaw7_QuantAlltttttttt (K : AV → AH → Prop) (x0 x1 x2 x8 x9 x10 : AV) (H : AH) : Prop :=
  outP CC H (w_conv .text H x10 none) fun v1 H1 =>
  outP CC H1 (w_load (some 2) H1 x9) fun v2 H2 =>
  outP CC H2 (some (.enter 40 [v2, x2])) fun v3 H3 =>
  ckP (reC true (w_conv .text H3 x10 none) v1) <|
  outP CC H3 (w_conv .text H3 v3 none) fun v4 H4 =>
  outP CC H4 (w_str .neq H4 v1 v4) fun v5 H5 =>
  guardP (boolIs false v5) H5 (outP CC H5 (w_load (some 2) H5 x8)) fun v6 H6 =>
  guardP (boolIs false v5) H6 (outP CC H6 (some (.val x10 H6))) fun v7 H7 =>
  guardP (boolIs false v5) H7 (outP CC H7 (w_load (some 2) H7 x9)) fun v8 H8 =>
  guardP (boolIs false v5) H8 (outP CC H8 (some (.val x10 H8))) fun v9 H9 =>
  guardP (boolIs false v5) H9 (outP CC H9 (some (.enter 41 [v6, v7]))) fun v10 H10 =>
  ckP (reC (boolIs false v5) (w_load (some 2) H10 x9) v8) <|
  guardP (boolIs false v5) H10 (outP CC H10 (some (.enter 42 [v8, v9]))) fun v11 H11 =>
  guardP (boolIs false v5) H11 (outP CC H11 (some (.enter 19 [v10, v11]))) fun v12 H12 =>
  guardP (boolIs false v5) H12 (outP CC H12 (w_un .not H12 v12)) fun v13 H13 =>
  outP CC H13 (w_pick H13 v5 (.bool true) v13) fun v14 H14 =>
  condP v14
  (K (.bool false) H14)
  (m_fieldfarelaw7_QuantAllttttttttth K x0 x1 x8 H14)
theorem m_fieldfarelaw7_QuantAlltttttttt_eq (K : AV → AH → Prop) (a : TE) (H : AH) : codeP PP CC (subC (bodyC PP 10) [1, 1, 1, 1, 1, 1, 1, 1]) (m_fieldfarelaw7_QuantAll_K K) a H = m_fieldfarelaw7_QuantAlltttttttt K (a 0) (a 1) (a 2) (a 8) (a 9) (a 10) H :=
  have h1 : codeP PP CC (subC (bodyC PP 10) [1, 1, 1, 1, 1, 1, 1, 1]) (m_fieldfarelaw7_QuantAll_K K) a H = codeP PP CC (subC (bodyC PP 10) [1, 1, 1, 1, 1, 1, 1, 1, 0]) (exP (codeP PP CC (subC (bodyC PP 10) [1, 1, 1, 1, 1, 1, 1, 1, 1]) (m_fieldfarelaw7_QuantAll_K K)) (m_fieldfarelaw7_QuantAll_K K)) a H := by kernel_rfl
  have h2 : codeP PP CC (subC (bodyC PP 10) [1, 1, 1, 1, 1, 1, 1, 1, 0]) (exP (codeP PP CC (subC (bodyC PP 10) [1, 1, 1, 1, 1, 1, 1, 1, 1]) (m_fieldfarelaw7_QuantAll_K K)) (m_fieldfarelaw7_QuantAll_K K)) a H = codeP PP CC (subC (bodyC PP 10) [1, 1, 1, 1, 1, 1, 1, 1, 0]) (exP (fun (a : TE) (H : AH) => m_fieldfarelaw7_QuantAllttttttttth K (a 0) (a 1) (a 8) H) (m_fieldfarelaw7_QuantAll_K K)) a H := congrArg (fun k : KE => codeP PP CC (subC (bodyC PP 10) [1, 1, 1, 1, 1, 1, 1, 1, 0]) (exP k (m_fieldfarelaw7_QuantAll_K K)) a H) (funext fun a => funext fun H => m_fieldfarelaw7_QuantAllttttttttt_eq K a H)
  have h2b : codeP PP CC (subC (bodyC PP 10) [1, 1, 1, 1, 1, 1, 1, 1, 0]) (exP (fun (a : TE) (H : AH) => m_fieldfarelaw7_QuantAllttttttttth K (a 0) (a 1) (a 8) H) (m_fieldfarelaw7_QuantAll_K K)) a H = codeP PP CC (subC (bodyC PP 10) [1, 1, 1, 1, 1, 1, 1, 1, 0]) (m_fieldfarelaw7_QuantAlltttttttt_k K) a H := by kernel_rfl
  have h3 : codeP PP CC (subC (bodyC PP 10) [1, 1, 1, 1, 1, 1, 1, 1, 0]) (m_fieldfarelaw7_QuantAlltttttttt_k K) a H = m_fieldfarelaw7_QuantAlltttttttt K (a 0) (a 1) (a 2) (a 8) (a 9) (a 10) H := by kernel_rfl
  ((h1.trans h2).trans h2b).trans h3
abbrev m_fieldfarelaw7_QuantAllttttttt_k (K : AV → AH → Prop) : KP := exP (fun (a : TE) (H : AH) => m_fieldfarelaw7_QuantAlltttttttt K (a 0) (a 1) (a 2) (a 8) (a 9) (a 10) H) (m_fieldfarelaw7_QuantAll_K K)
def m_fieldfarelaw7_QuantAllttttttt (K : AV → AH → Prop) (x0 x1 x2 x8 x9 : AV) (H : AH) : Prop :=
  outP CC H (w_load (some 2) H x8) fun v1 H1 =>
  outP CC H1 (some (.enter 39 [v1, x2])) fun v2 H2 =>
  m_fieldfarelaw7_QuantAlltttttttt K x0 x1 x2 x8 x9 v2 H2
theorem m_fieldfarelaw7_QuantAllttttttt_eq (K : AV → AH → Prop) (a : TE) (H : AH) : codeP PP CC (subC (bodyC PP 10) [1, 1, 1, 1, 1, 1, 1]) (m_fieldfarelaw7_QuantAll_K K) a H = m_fieldfarelaw7_QuantAllttttttt K (a 0) (a 1) (a 2) (a 8) (a 9) H :=
  have h1 : codeP PP CC (subC (bodyC PP 10) [1, 1, 1, 1, 1, 1, 1]) (m_fieldfarelaw7_QuantAll_K K) a H = codeP PP CC (subC (bodyC PP 10) [1, 1, 1, 1, 1, 1, 1, 0]) (exP (codeP PP CC (subC (bodyC PP 10) [1, 1, 1, 1, 1, 1, 1, 1]) (m_fieldfarelaw7_QuantAll_K K)) (m_fieldfarelaw7_QuantAll_K K)) a H := by kernel_rfl
  have h2 : codeP PP CC (subC (bodyC PP 10) [1, 1, 1, 1, 1, 1, 1, 0]) (exP (codeP PP CC (subC (bodyC PP 10) [1, 1, 1, 1, 1, 1, 1, 1]) (m_fieldfarelaw7_QuantAll_K K)) (m_fieldfarelaw7_QuantAll_K K)) a H = codeP PP CC (subC (bodyC PP 10) [1, 1, 1, 1, 1, 1, 1, 0]) (exP (fun (a : TE) (H : AH) => m_fieldfarelaw7_QuantAlltttttttt K (a 0) (a 1) (a 2) (a 8) (a 9) (a 10) H) (m_fieldfarelaw7_QuantAll_K K)) a H := congrArg (fun k : KE => codeP PP CC (subC (bodyC PP 10) [1, 1, 1, 1, 1, 1, 1, 0]) (exP k (m_fieldfarelaw7_QuantAll_K K)) a H) (funext fun a => funext fun H => m_fieldfarelaw7_QuantAlltttttttt_eq K a H)
  have h2b : codeP PP CC (subC (bodyC PP 10) [1, 1, 1, 1, 1, 1, 1, 0]) (exP (fun (a : TE) (H : AH) => m_fieldfarelaw7_QuantAlltttttttt K (a 0) (a 1) (a 2) (a 8) (a 9) (a 10) H) (m_fieldfarelaw7_QuantAll_K K)) a H = codeP PP CC (subC (bodyC PP 10) [1, 1, 1, 1, 1, 1, 1, 0]) (m_fieldfarelaw7_QuantAllttttttt_k K) a H := by kernel_rfl
  have h3 : codeP PP CC (subC (bodyC PP 10) [1, 1, 1, 1, 1, 1, 1, 0]) (m_fieldfarelaw7_QuantAllttttttt_k K) a H = m_fieldfarelaw7_QuantAllttttttt K (a 0) (a 1) (a 2) (a 8) (a 9) H := by kernel_rfl
  ((h1.trans h2).trans h2b).trans h3
abbrev m_fieldfarelaw7_QuantAlltttttt_k (K : AV → AH → Prop) : KP := exP (fun (a : TE) (H : AH) => m_fieldfarelaw7_QuantAllttttttt K (a 0) (a 1) (a 2) (a 8) (a 9) H) (m_fieldfarelaw7_QuantAll_K K)
def m_fieldfarelaw7_QuantAlltttttt (K : AV → AH → Prop) (x0 x1 x2 x8 x9 : AV) (H : AH) : Prop :=
  outP CC H (w_len PP 28 H x2) fun v1 H1 =>
  outP CC H1 (w_min2 H1 v1 (.int .i64 10)) fun v2 H2 =>
  outP CC H2 (w_slice (.sl 1) true false H2 x2 none (some v2) none) fun v3 H3 =>
  m_fieldfarelaw7_QuantAllttttttt K x0 x1 v3 x8 x9 H3
theorem m_fieldfarelaw7_QuantAlltttttt_eq (K : AV → AH → Prop) (a : TE) (H : AH) : codeP PP CC (subC (bodyC PP 10) [1, 1, 1, 1, 1, 1]) (m_fieldfarelaw7_QuantAll_K K) a H = m_fieldfarelaw7_QuantAlltttttt K (a 0) (a 1) (a 2) (a 8) (a 9) H :=
  have h1 : codeP PP CC (subC (bodyC PP 10) [1, 1, 1, 1, 1, 1]) (m_fieldfarelaw7_QuantAll_K K) a H = codeP PP CC (subC (bodyC PP 10) [1, 1, 1, 1, 1, 1, 0]) (exP (codeP PP CC (subC (bodyC PP 10) [1, 1, 1, 1, 1, 1, 1]) (m_fieldfarelaw7_QuantAll_K K)) (m_fieldfarelaw7_QuantAll_K K)) a H := by kernel_rfl
  have h2 : codeP PP CC (subC (bodyC PP 10) [1, 1, 1, 1, 1, 1, 0]) (exP (codeP PP CC (subC (bodyC PP 10) [1, 1, 1, 1, 1, 1, 1]) (m_fieldfarelaw7_QuantAll_K K)) (m_fieldfarelaw7_QuantAll_K K)) a H = codeP PP CC (subC (bodyC PP 10) [1, 1, 1, 1, 1, 1, 0]) (exP (fun (a : TE) (H : AH) => m_fieldfarelaw7_QuantAllttttttt K (a 0) (a 1) (a 2) (a 8) (a 9) H) (m_fieldfarelaw7_QuantAll_K K)) a H := congrArg (fun k : KE => codeP PP CC (subC (bodyC PP 10) [1, 1, 1, 1, 1, 1, 0]) (exP k (m_fieldfarelaw7_QuantAll_K K)) a H) (funext fun a => funext fun H => m_fieldfarelaw7_QuantAllttttttt_eq K a H)
  have h2b : codeP PP CC (subC (bodyC PP 10) [1, 1, 1, 1, 1, 1, 0]) (exP (fun (a : TE) (H : AH) => m_fieldfarelaw7_QuantAllttttttt K (a 0) (a 1) (a 2) (a 8) (a 9) H) (m_fieldfarelaw7_QuantAll_K K)) a H = codeP PP CC (subC (bodyC PP 10) [1, 1, 1, 1, 1, 1, 0]) (m_fieldfarelaw7_QuantAlltttttt_k K) a H := by kernel_rfl
  have h3 : codeP PP CC (subC (bodyC PP 10) [1, 1, 1, 1, 1, 1, 0]) (m_fieldfarelaw7_QuantAlltttttt_k K) a H = m_fieldfarelaw7_QuantAlltttttt K (a 0) (a 1) (a 2) (a 8) (a 9) H := by kernel_rfl
  ((h1.trans h2).trans h2b).trans h3
abbrev m_fieldfarelaw7_QuantAllttttt_k (K : AV → AH → Prop) : KP := exP (fun (a : TE) (H : AH) => m_fieldfarelaw7_QuantAlltttttt K (a 0) (a 1) (a 2) (a 8) (a 9) H) (m_fieldfarelaw7_QuantAll_K K)
def m_fieldfarelaw7_QuantAllttttt (K : AV → AH → Prop) (x0 x1 x2 x8 x9 : AV) (H : AH) : Prop :=
  outP CC H (w_load (some 2) H x8) fun v1 H1 =>
  outP CC H1 (w_load (some 2) H1 x9) fun v2 H2 =>
  outP CC H2 (some (.enter 36 [v1, v2])) fun v3 H3 =>
  outP CC H3 (w_un .not H3 v3) fun v4 H4 =>
  guardP (boolIs false v4) H4 (outP CC H4 (w_load (some 2) H4 x8)) fun v5 H5 =>
  guardP (boolIs false v4) H5 (outP CC H5 (w_load (some 2) H5 x9)) fun v6 H6 =>
  guardP (boolIs false v4) H6 (outP CC H6 (some (.enter 37 [v5]))) fun v7 H7 =>
  ckP (reC (boolIs false v4) (w_load (some 2) H7 x9) v6) <|
  guardP (boolIs false v4) H7 (outP CC H7 (some (.enter 38 [v6]))) fun v8 H8 =>
  guardP (boolIs false v4) H8 (outP CC H8 (w_int .neq H8 v7 v8)) fun v9 H9 =>
  outP CC H9 (w_pick H9 v4 (.bool true) v9) fun v10 H10 =>
  condP v10
  (K (.bool false) H10)
  (m_fieldfarelaw7_QuantAlltttttt K x0 x1 x2 x8 x9 H10)
theorem m_fieldfarelaw7_QuantAllttttt_eq (K : AV → AH → Prop) (a : TE) (H : AH) : codeP PP CC (subC (bodyC PP 10) [1, 1, 1, 1, 1]) (m_fieldfarelaw7_QuantAll_K K) a H = m_fieldfarelaw7_QuantAllttttt K (a 0) (a 1) (a 2) (a 8) (a 9) H :=
  have h1 : codeP PP CC (subC (bodyC PP 10) [1, 1, 1, 1, 1]) (m_fieldfarelaw7_QuantAll_K K) a H = codeP PP CC (subC (bodyC PP 10) [1, 1, 1, 1, 1, 0]) (exP (codeP PP CC (subC (bodyC PP 10) [1, 1, 1, 1, 1, 1]) (m_fieldfarelaw7_QuantAll_K K)) (m_fieldfarelaw7_QuantAll_K K)) a H := by kernel_rfl
  have h2 : codeP PP CC (subC (bodyC PP 10) [1, 1, 1, 1, 1, 0]) (exP (codeP PP CC (subC (bodyC PP 10) [1, 1, 1, 1, 1, 1]) (m_fieldfarelaw7_QuantAll_K K)) (m_fieldfarelaw7_QuantAll_K K)) a H = codeP PP CC (subC (bodyC PP 10) [1, 1, 1, 1, 1, 0]) (exP (fun (a : TE) (H : AH) => m_fieldfarelaw7_QuantAlltttttt K (a 0) (a 1) (a 2) (a 8) (a 9) H) (m_fieldfarelaw7_QuantAll_K K)) a H := congrArg (fun k : KE => codeP PP CC (subC (bodyC PP 10) [1, 1, 1, 1, 1, 0]) (exP k (m_fieldfarelaw7_QuantAll_K K)) a H) (funext fun a => funext fun H => m_fieldfarelaw7_QuantAlltttttt_eq K a H)
  have h2b : codeP PP CC (subC (bodyC PP 10) [1, 1, 1, 1, 1, 0]) (exP (fun (a : TE) (H : AH) => m_fieldfarelaw7_QuantAlltttttt K (a 0) (a 1) (a 2) (a 8) (a 9) H) (m_fieldfarelaw7_QuantAll_K K)) a H = codeP PP CC (subC (bodyC PP 10) [1, 1, 1, 1, 1, 0]) (m_fieldfarelaw7_QuantAllttttt_k K) a H := by kernel_rfl
  have h3 : codeP PP CC (subC (bodyC PP 10) [1, 1, 1, 1, 1, 0]) (m_fieldfarelaw7_QuantAllttttt_k K) a H = m_fieldfarelaw7_QuantAllttttt K (a 0) (a 1) (a 2) (a 8) (a 9) H := by kernel_rfl
  ((h1.trans h2).trans h2b).trans h3
abbrev m_fieldfarelaw7_QuantAlltttt_k (K : AV → AH → Prop) : KP := exP (fun (a : TE) (H : AH) => m_fieldfarelaw7_QuantAllttttt K (a 0) (a 1) (a 2) (a 8) (a 9) H) (m_fieldfarelaw7_QuantAll_K K)
def m_fieldfarelaw7_QuantAlltttt (K : AV → AH → Prop) (x0 x1 x2 : AV) (H : AH) : Prop :=
  outP CC H (some (.enter 34 [x0, x1])) fun v1 H1 =>
  outP CC H1 (some (.enter 35 [x0, x1])) fun v2 H2 =>
  outP CC H2 (w_alloc 65 [(.slice none 0 0 true), (.slice none 0 0 true)] H2 none) fun v3 H3 =>
  outP CC H3 (w_alloc 67 [(.slice none 0 0 true), (.slice none 0 0 true)] H3 none) fun v4 H4 =>
  outP CC H4 (w_store 2 H4 v3 v1) fun _v5 H5 =>
  outP CC H5 (w_store 2 H5 v4 v2) fun _v6 H6 =>
  m_fieldfarelaw7_QuantAllttttt K x0 x1 x2 v3 v4 H6
theorem m_fieldfarelaw7_QuantAlltttt_eq (K : AV → AH → Prop) (a : TE) (H : AH) : codeP PP CC (subC (bodyC PP 10) [1, 1, 1, 1]) (m_fieldfarelaw7_QuantAll_K K) a H = m_fieldfarelaw7_QuantAlltttt K (a 0) (a 1) (a 2) H :=
  have h1 : codeP PP CC (subC (bodyC PP 10) [1, 1, 1, 1]) (m_fieldfarelaw7_QuantAll_K K) a H = codeP PP CC (subC (bodyC PP 10) [1, 1, 1, 1, 0]) (exP (codeP PP CC (subC (bodyC PP 10) [1, 1, 1, 1, 1]) (m_fieldfarelaw7_QuantAll_K K)) (m_fieldfarelaw7_QuantAll_K K)) a H := by kernel_rfl
  have h2 : codeP PP CC (subC (bodyC PP 10) [1, 1, 1, 1, 0]) (exP (codeP PP CC (subC (bodyC PP 10) [1, 1, 1, 1, 1]) (m_fieldfarelaw7_QuantAll_K K)) (m_fieldfarelaw7_QuantAll_K K)) a H = codeP PP CC (subC (bodyC PP 10) [1, 1, 1, 1, 0]) (exP (fun (a : TE) (H : AH) => m_fieldfarelaw7_QuantAllttttt K (a 0) (a 1) (a 2) (a 8) (a 9) H) (m_fieldfarelaw7_QuantAll_K K)) a H := congrArg (fun k : KE => codeP PP CC (subC (bodyC PP 10) [1, 1, 1, 1, 0]) (exP k (m_fieldfarelaw7_QuantAll_K K)) a H) (funext fun a => funext fun H => m_fieldfarelaw7_QuantAllttttt_eq K a H)
  have h2b : codeP PP CC (subC (bodyC PP 10) [1, 1, 1, 1, 0]) (exP (fun (a : TE) (H : AH) => m_fieldfarelaw7_QuantAllttttt K (a 0) (a 1) (a 2) (a 8) (a 9) H) (m_fieldfarelaw7_QuantAll_K K)) a H = codeP PP CC (subC (bodyC PP 10) [1, 1, 1, 1, 0]) (m_fieldfarelaw7_QuantAlltttt_k K) a H := by kernel_rfl
  have h3 : codeP PP CC (subC (bodyC PP 10) [1, 1, 1, 1, 0]) (m_fieldfarelaw7_QuantAlltttt_k K) a H = m_fieldfarelaw7_QuantAlltttt K (a 0) (a 1) (a 2) H := by kernel_rfl
  ((h1.trans h2).trans h2b).trans h3
abbrev m_fieldfarelaw7_QuantAllttt_k (K : AV → AH → Prop) : KP := exP (fun (a : TE) (H : AH) => m_fieldfarelaw7_QuantAlltttt K (a 0) (a 1) (a 2) H) (m_fieldfarelaw7_QuantAll_K K)
def m_fieldfarelaw7_QuantAllttt (K : AV → AH → Prop) (x0 x1 x2 : AV) (H : AH) : Prop :=
  outP CC H (w_len PP 22 H x1) fun v1 H1 =>
  outP CC H1 (w_min2 H1 v1 (.int .i64 20)) fun v2 H2 =>
  outP CC H2 (w_slice (.sl 1) true false H2 x1 none (some v2) none) fun v3 H3 =>
  m_fieldfarelaw7_QuantAlltttt K x0 v3 x2 H3
theorem m_fieldfarelaw7_QuantAllttt_eq (K : AV → AH → Prop) (a : TE) (H : AH) : codeP PP CC (subC (bodyC PP 10) [1, 1, 1]) (m_fieldfarelaw7_QuantAll_K K) a H = m_fieldfarelaw7_QuantAllttt K (a 0) (a 1) (a 2) H :=
  have h1 : codeP PP CC (subC (bodyC PP 10) [1, 1, 1]) (m_fieldfarelaw7_QuantAll_K K) a H = codeP PP CC (subC (bodyC PP 10) [1, 1, 1, 0]) (exP (codeP PP CC (subC (bodyC PP 10) [1, 1, 1, 1]) (m_fieldfarelaw7_QuantAll_K K)) (m_fieldfarelaw7_QuantAll_K K)) a H := by kernel_rfl
  have h2 : codeP PP CC (subC (bodyC PP 10) [1, 1, 1, 0]) (exP (codeP PP CC (subC (bodyC PP 10) [1, 1, 1, 1]) (m_fieldfarelaw7_QuantAll_K K)) (m_fieldfarelaw7_QuantAll_K K)) a H = codeP PP CC (subC (bodyC PP 10) [1, 1, 1, 0]) (exP (fun (a : TE) (H : AH) => m_fieldfarelaw7_QuantAlltttt K (a 0) (a 1) (a 2) H) (m_fieldfarelaw7_QuantAll_K K)) a H := congrArg (fun k : KE => codeP PP CC (subC (bodyC PP 10) [1, 1, 1, 0]) (exP k (m_fieldfarelaw7_QuantAll_K K)) a H) (funext fun a => funext fun H => m_fieldfarelaw7_QuantAlltttt_eq K a H)
  have h2b : codeP PP CC (subC (bodyC PP 10) [1, 1, 1, 0]) (exP (fun (a : TE) (H : AH) => m_fieldfarelaw7_QuantAlltttt K (a 0) (a 1) (a 2) H) (m_fieldfarelaw7_QuantAll_K K)) a H = codeP PP CC (subC (bodyC PP 10) [1, 1, 1, 0]) (m_fieldfarelaw7_QuantAllttt_k K) a H := by kernel_rfl
  have h3 : codeP PP CC (subC (bodyC PP 10) [1, 1, 1, 0]) (m_fieldfarelaw7_QuantAllttt_k K) a H = m_fieldfarelaw7_QuantAllttt K (a 0) (a 1) (a 2) H := by kernel_rfl
  ((h1.trans h2).trans h2b).trans h3
abbrev m_fieldfarelaw7_QuantAlltt_k (K : AV → AH → Prop) : KP := exP (fun (a : TE) (H : AH) => m_fieldfarelaw7_QuantAllttt K (a 0) (a 1) (a 2) H) (m_fieldfarelaw7_QuantAll_K K)
def m_fieldfarelaw7_QuantAlltt (K : AV → AH → Prop) (x0 x1 x2 x7 : AV) (H : AH) : Prop :=
  outP CC H (w_un .not H x7) fun v1 H1 =>
  condP v1
  (K (.bool false) H1)
  (m_fieldfarelaw7_QuantAllttt K x0 x1 x2 H1)
theorem m_fieldfarelaw7_QuantAlltt_eq (K : AV → AH → Prop) (a : TE) (H : AH) : codeP PP CC (subC (bodyC PP 10) [1, 1]) (m_fieldfarelaw7_QuantAll_K K) a H = m_fieldfarelaw7_QuantAlltt K (a 0) (a 1) (a 2) (a 7) H :=
  have h1 : codeP PP CC (subC (bodyC PP 10) [1, 1]) (m_fieldfarelaw7_QuantAll_K K) a H = codeP PP CC (subC (bodyC PP 10) [1, 1, 0]) (exP (codeP PP CC (subC (bodyC PP 10) [1, 1, 1]) (m_fieldfarelaw7_QuantAll_K K)) (m_fieldfarelaw7_QuantAll_K K)) a H := by kernel_rfl
  have h2 : codeP PP CC (subC (bodyC PP 10) [1, 1, 0]) (exP (codeP PP CC (subC (bodyC PP 10) [1, 1, 1]) (m_fieldfarelaw7_QuantAll_K K)) (m_fieldfarelaw7_QuantAll_K K)) a H = codeP PP CC (subC (bodyC PP 10) [1, 1, 0]) (exP (fun (a : TE) (H : AH) => m_fieldfarelaw7_QuantAllttt K (a 0) (a 1) (a 2) H) (m_fieldfarelaw7_QuantAll_K K)) a H := congrArg (fun k : KE => codeP PP CC (subC (bodyC PP 10) [1, 1, 0]) (exP k (m_fieldfarelaw7_QuantAll_K K)) a H) (funext fun a => funext fun H => m_fieldfarelaw7_QuantAllttt_eq K a H)
  have h2b : codeP PP CC (subC (bodyC PP 10) [1, 1, 0]) (exP (fun (a : TE) (H : AH) => m_fieldfarelaw7_QuantAllttt K (a 0) (a 1) (a 2) H) (m_fieldfarelaw7_QuantAll_K K)) a H = codeP PP CC (subC (bodyC PP 10) [1, 1, 0]) (m_fieldfarelaw7_QuantAlltt_k K) a H := by kernel_rfl
  have h3 : codeP PP CC (subC (bodyC PP 10) [1, 1, 0]) (m_fieldfarelaw7_QuantAlltt_k K) a H = m_fieldfarelaw7_QuantAlltt K (a 0) (a 1) (a 2) (a 7) H := by kernel_rfl
  ((h1.trans h2).trans h2b).trans h3
abbrev m_fieldfarelaw7_QuantAllt_k (K : AV → AH → Prop) : KP := exP (fun (a : TE) (H : AH) => m_fieldfarelaw7_QuantAlltt K (a 0) (a 1) (a 2) (a 7) H) (m_fieldfarelaw7_QuantAll_K K)
def m_fieldfarelaw7_QuantAllt (K : AV → AH → Prop) (x0 x1 x2 : AV) (H : AH) : Prop :=
  outP CC H (some (.enter 14 [])) fun v1 H1 =>
  m_fieldfarelaw7_QuantAlltt K x0 x1 x2 v1 H1
theorem m_fieldfarelaw7_QuantAllt_eq (K : AV → AH → Prop) (a : TE) (H : AH) : codeP PP CC (subC (bodyC PP 10) [1]) (m_fieldfarelaw7_QuantAll_K K) a H = m_fieldfarelaw7_QuantAllt K (a 0) (a 1) (a 2) H :=
  have h1 : codeP PP CC (subC (bodyC PP 10) [1]) (m_fieldfarelaw7_QuantAll_K K) a H = codeP PP CC (subC (bodyC PP 10) [1, 0]) (exP (codeP PP CC (subC (bodyC PP 10) [1, 1]) (m_fieldfarelaw7_QuantAll_K K)) (m_fieldfarelaw7_QuantAll_K K)) a H := by kernel_rfl
  have h2 : codeP PP CC (subC (bodyC PP 10) [1, 0]) (exP (codeP PP CC (subC (bodyC PP 10) [1, 1]) (m_fieldfarelaw7_QuantAll_K K)) (m_fieldfarelaw7_QuantAll_K K)) a H = codeP PP CC (subC (bodyC PP 10) [1, 0]) (exP (fun (a : TE) (H : AH) => m_fieldfarelaw7_QuantAlltt K (a 0) (a 1) (a 2) (a 7) H) (m_fieldfarelaw7_QuantAll_K K)) a H := congrArg (fun k : KE => codeP PP CC (subC (bodyC PP 10) [1, 0]) (exP k (m_fieldfarelaw7_QuantAll_K K)) a H) (funext fun a => funext fun H => m_fieldfarelaw7_QuantAlltt_eq K a H)
  have h2b : codeP PP CC (subC (bodyC PP 10) [1, 0]) (exP (fun (a : TE) (H : AH) => m_fieldfarelaw7_QuantAlltt K (a 0) (a 1) (a 2) (a 7) H) (m_fieldfarelaw7_QuantAll_K K)) a H = codeP PP CC (subC (bodyC PP 10) [1, 0]) (m_fieldfarelaw7_QuantAllt_k K) a H := by kernel_rfl
  have h3 : codeP PP CC (subC (bodyC PP 10) [1, 0]) (m_fieldfarelaw7_QuantAllt_k K) a H = m_fieldfarelaw7_QuantAllt K (a 0) (a 1) (a 2) H := by kernel_rfl
  ((h1.trans h2).trans h2b).trans h3
abbrev m_fieldfarelaw7_QuantAll_k (K : AV → AH → Prop) : KP := exP (fun (a : TE) (H : AH) => m_fieldfarelaw7_QuantAllt K (a 0) (a 1) (a 2) H) (m_fieldfarelaw7_QuantAll_K K)
def m_fieldfarelaw7_QuantAll (K : AV → AH → Prop) (x0 x1 x2 : AV) (H : AH) : Prop :=
  m_fieldfarelaw7_QuantAllt K x0 x1 x2 H
theorem m_fieldfarelaw7_QuantAll_eq (K : AV → AH → Prop) (a : TE) (H : AH) : codeP PP CC (subC (bodyC PP 10) []) (m_fieldfarelaw7_QuantAll_K K) a H = m_fieldfarelaw7_QuantAll K (a 0) (a 1) (a 2) H :=
  have h1 : codeP PP CC (subC (bodyC PP 10) []) (m_fieldfarelaw7_QuantAll_K K) a H = codeP PP CC (subC (bodyC PP 10) [0]) (exP (codeP PP CC (subC (bodyC PP 10) [1]) (m_fieldfarelaw7_QuantAll_K K)) (m_fieldfarelaw7_QuantAll_K K)) a H := by kernel_rfl
  have h2 : codeP PP CC (subC (bodyC PP 10) [0]) (exP (codeP PP CC (subC (bodyC PP 10) [1]) (m_fieldfarelaw7_QuantAll_K K)) (m_fieldfarelaw7_QuantAll_K K)) a H = codeP PP CC (subC (bodyC PP 10) [0]) (exP (fun (a : TE) (H : AH) => m_fieldfarelaw7_QuantAllt K (a 0) (a 1) (a 2) H) (m_fieldfarelaw7_QuantAll_K K)) a H := congrArg (fun k : KE => codeP PP CC (subC (bodyC PP 10) [0]) (exP k (m_fieldfarelaw7_QuantAll_K K)) a H) (funext fun a => funext fun H => m_fieldfarelaw7_QuantAllt_eq K a H)
  have h2b : codeP PP CC (subC (bodyC PP 10) [0]) (exP (fun (a : TE) (H : AH) => m_fieldfarelaw7_QuantAllt K (a 0) (a 1) (a 2) H) (m_fieldfarelaw7_QuantAll_K K)) a H = codeP PP CC (subC (bodyC PP 10) [0]) (m_fieldfarelaw7_QuantAll_k K) a H := by kernel_rfl
  have h3 : codeP PP CC (subC (bodyC PP 10) [0]) (m_fieldfarelaw7_QuantAll_k K) a H = m_fieldfarelaw7_QuantAll K (a 0) (a 1) (a 2) H := by kernel_rfl
  ((h1.trans h2).trans h2b).trans h3
theorem m_fieldfarelaw7_QuantAll_ok (x0 x1 x2 : AV) (H : AH) (K : AV → AH → Prop) (h : m_fieldfarelaw7_QuantAll K x0 x1 x2 H) : CC.call 10 [x0, x1, x2] H K :=
  have h1 : funP PP CC 10 [x0, x1, x2] H K = codeP PP CC (subC (bodyC PP 10) []) (m_fieldfarelaw7_QuantAll_K K) (argE [x0, x1, x2]) H := by kernel_rfl
  have h2 : m_fieldfarelaw7_QuantAll K (argE [x0, x1, x2] 0) (argE [x0, x1, x2] 1) (argE [x0, x1, x2] 2) H = m_fieldfarelaw7_QuantAll K x0 x1 x2 H := by kernel_rfl
  funP_ok (P := PP) (by kernel_rfl) (by kernel_rfl) ((h1.trans ((m_fieldfarelaw7_QuantAll_eq K (argE [x0, x1, x2]) H).trans h2)).mpr h)

end
end Go.Ab
