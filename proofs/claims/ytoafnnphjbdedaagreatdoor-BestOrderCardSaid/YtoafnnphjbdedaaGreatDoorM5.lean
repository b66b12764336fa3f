/- What functions do, said as what the evaluator does. Printed by a program. -/
import Derived.Test.YtoafnnphjbdedaaGreatDoorBeg
import Derived.Test.YtoafnnphjbdedaaGreatDoorEv3
namespace Go.Ab
noncomputable section
open Go.Proofs
set_option maxRecDepth 100000



/-! 5: fieldfare/fieldfarelaw7.BestOrder -/
abbrev m_fieldfarelaw7_BestOrder_K (K : AV → AH → Prop) : KP := finP PP (resC PP 5) K
abbrev m_fieldfarelaw7_BestOrderttttttttt_k (K : AV → AH → Prop) : KP := exP (codeP PP CC (subC (bodyC PP 5) [1, 1, 1, 1, 1, 1, 1, 1, 1, 1]) (m_fieldfarelaw7_BestOrder_K K)) (m_fieldfarelaw7_BestOrder_K K)
abbrev m_fieldfarelaw7_BestOrdertttttttttht_k (K : AV → AH → Prop) : KP := blockP 4 (m_fieldfarelaw7_BestOrderttttttttt_k K)
abbrev m_fieldfarelaw7_BestOrderttttttttthtb_k (K : AV → AH → Prop) (r0 : (AV × AV × AV × AV × AV × AV) → AH → Prop) : KP := exP (fun (a : TE) (H : AH) => r0 (a 0, a 8, a 10, a 13, a 82, a 83) H) (m_fieldfarelaw7_BestOrdertttttttttht_k K)
abbrev m_fieldfarelaw7_BestOrderttttttttthtbltt_k (K : AV → AH → Prop) (r0 : (AV × AV × AV × AV × AV × AV) → AH → Prop) : KP := exP (codeP PP CC (subC (bodyC PP 5) [1, 1, 1, 1, 1, 1, 1, 1, 1, 0, 1, 0, 0, 1, 1, 1]) (m_fieldfarelaw7_BestOrderttttttttthtb_k K r0)) (m_fieldfarelaw7_BestOrderttttttttthtb_k K r0)
abbrev m_fieldfarelaw7_BestOrderttttttttthtbltth_k (K : AV → AH → Prop) (r0 : (AV × AV × AV × AV × AV × AV) → AH → Prop) : KP := blockP 5 (m_fieldfarelaw7_BestOrderttttttttthtbltt_k K r0)
abbrev m_fieldfarelaw7_BestOrderttttttttthtbltthbtt_k (K : AV → AH → Prop) (r0 : (AV × AV × AV × AV × AV × AV) → AH → Prop) : KP := exP (codeP PP CC (subC (bodyC PP 5) [1, 1, 1, 1, 1, 1, 1, 1, 1, 0, 1, 0, 0, 1, 1, 0, 0, 1, 1, 1]) (m_fieldfarelaw7_BestOrderttttttttthtbltth_k K r0)) (m_fieldfarelaw7_BestOrderttttttttthtbltth_k K r0)
abbrev m_fieldfarelaw7_BestOrderttttttttthtbltthbttht_k (K : AV → AH → Prop) (r0 : (AV × AV × AV × AV × AV × AV) → AH → Prop) : KP := blockP 6 (m_fieldfarelaw7_BestOrderttttttttthtbltthbtt_k K r0)
abbrev m_fieldfarelaw7_BestOrderttttttttthtbltthbtthtb_k (K : AV → AH → Prop) (r0 : (AV × AV × AV × AV × AV × AV) → AH → Prop) (r1 : (AV × AV × AV × AV × AV × AV × AV × AV × AV × AV × AV) → AH → Prop) : KP := exP (fun (a : TE) (H : AH) => r1 (a 0, a 8, a 10, a 13, a 14, a 15, a 82, a 83, a 86, a 87, a 88) H) (m_fieldfarelaw7_BestOrderttttttttthtbltthbttht_k K r0)
def m_fieldfarelaw7_BestOrderttttttttthtbltthbtthtbl (K : AV → AH → Prop) (r0 : (AV × AV × AV × AV × AV × AV) → AH → Prop) (r1 : (AV × AV × AV × AV × AV × AV × AV × AV × AV × AV × AV) → AH → Prop) (x0 x8 x10 x13 x14 x15 x82 x83 x86 x87 x88 : AV) (H : AH) : Prop :=
  outP CC H (w_int .lss H x88 x87) fun v1 H1 =>
  condP v1
  (outP CC H1 (w_indexAddr (.sl 2) H1 x86 x88) fun v2 H2 =>
  outP CC H2 (w_load (some 2) H2 v2) fun v3 H3 =>
  outP CC H3 (w_alloc 37 [(.int .i64 0), (.int .i64 0)] H3 none) fun v4 H4 =>
  outP CC H4 (w_store 2 H4 v4 v3) fun _v5 H5 =>
  outP CC H5 (w_load (some 2) H5 v4) fun v6 H6 =>
  outP CC H6 (w_indexAddr (.sl 2) H6 x10 x14) fun v7 H7 =>
  outP CC H7 (w_load (some 2) H7 v7) fun v8 H8 =>
  outP CC H8 (some (.enter 26 [v6, v8])) fun v9 H9 =>
  condP v9
  (outP CC H9 (w_int .add H9 x15 (.int .i64 1)) fun v10 H10 =>
  outP CC H10 (w_int .add H10 x88 (.int .i64 1)) fun v11 H11 =>
  r1 (x0, x8, x10, x13, x14, v10, x82, x83, x86, x87, v11) H11)
  (outP CC H9 (w_int .add H9 x88 (.int .i64 1)) fun v12 H12 =>
  r1 (x0, x8, x10, x13, x14, x15, x82, x83, x86, x87, v12) H12))
  (outP CC H1 (w_int .neq H1 x15 x14) fun v13 H13 =>
  condP v13
  (K (.bool false) H13)
  (outP CC H13 (w_int .add H13 x83 (.int .i64 1)) fun v14 H14 =>
  r0 (x0, x8, x10, x13, x82, v14) H14))
theorem m_fieldfarelaw7_BestOrderttttttttthtbltthbtthtbl_eq (K : AV → AH → Prop) (r0 : (AV × AV × AV × AV × AV × AV) → AH → Prop) (r1 : (AV × AV × AV × AV × AV × AV × AV × AV × AV × AV × AV) → AH → Prop) (a : TE) (H : AH) : codeP PP CC (subC (bodyC PP 5) [1, 1, 1, 1, 1, 1, 1, 1, 1, 0, 1, 0, 0, 1, 1, 0, 0, 1, 1, 0, 1, 0, 0]) (m_fieldfarelaw7_BestOrderttttttttthtbltthbtthtb_k K r0 r1) a H = m_fieldfarelaw7_BestOrderttttttttthtbltthbtthtbl K r0 r1 (a 0) (a 8) (a 10) (a 13) (a 14) (a 15) (a 82) (a 83) (a 86) (a 87) (a 88) H :=
  by kernel_rfl
def m_fieldfarelaw7_BestOrderttttttttthtbltthbtthtb (K : AV → AH → Prop) (r0 : (AV × AV × AV × AV × AV × AV) → AH → Prop) (x0 x8 x10 x13 x14 x15 x82 x83 x86 x87 x88 : AV) (H : AH) : Prop :=
  loopP (fun (r1 : (AV × AV × AV × AV × AV × AV × AV × AV × AV × AV × AV) → AH → Prop) (s : (AV × AV × AV × AV × AV × AV × AV × AV × AV × AV × AV)) (H : AH) => m_fieldfarelaw7_BestOrderttttttttthtbltthbtthtbl K r0 r1 s.1 s.2.1 s.2.2.1 s.2.2.2.1 s.2.2.2.2.1 s.2.2.2.2.2.1 s.2.2.2.2.2.2.1 s.2.2.2.2.2.2.2.1 s.2.2.2.2.2.2.2.2.1 s.2.2.2.2.2.2.2.2.2.1 s.2.2.2.2.2.2.2.2.2.2 H) (x0, x8, x10, x13, x14, x15, x82, x83, x86, x87, x88) H
theorem m_fieldfarelaw7_BestOrderttttttttthtbltthbtthtb_eq (K : AV → AH → Prop) (r0 : (AV × AV × AV × AV × AV × AV) → AH → Prop) (a : TE) (H : AH) : codeP PP CC (subC (bodyC PP 5) [1, 1, 1, 1, 1, 1, 1, 1, 1, 0, 1, 0, 0, 1, 1, 0, 0, 1, 1, 0, 1, 0]) (m_fieldfarelaw7_BestOrderttttttttthtbltthbttht_k K r0) a H = m_fieldfarelaw7_BestOrderttttttttthtbltthbtthtb K r0 (a 0) (a 8) (a 10) (a 13) (a 14) (a 15) (a 82) (a 83) (a 86) (a 87) (a 88) H :=
  have h1 : codeP PP CC (subC (bodyC PP 5) [1, 1, 1, 1, 1, 1, 1, 1, 1, 0, 1, 0, 0, 1, 1, 0, 0, 1, 1, 0, 1, 0]) (m_fieldfarelaw7_BestOrderttttttttthtbltthbttht_k K r0) a H = loopP (fun (rec : KE) => codeP PP CC (subC (bodyC PP 5) [1, 1, 1, 1, 1, 1, 1, 1, 1, 0, 1, 0, 0, 1, 1, 0, 0, 1, 1, 0, 1, 0, 0]) (exP rec (m_fieldfarelaw7_BestOrderttttttttthtbltthbttht_k K r0))) a H := by kernel_rfl
  have h2 := loopP_iso (F := fun (rec : KE) => codeP PP CC (subC (bodyC PP 5) [1, 1, 1, 1, 1, 1, 1, 1, 1, 0, 1, 0, 0, 1, 1, 0, 0, 1, 1, 0, 1, 0, 0]) (exP rec (m_fieldfarelaw7_BestOrderttttttttthtbltthbttht_k K r0))) (S := (AV × AV × AV × AV × AV × AV × AV × AV × AV × AV × AV)) (fun a => (a 0, a 8, a 10, a 13, a 14, a 15, a 82, a 83, a 86, a 87, a 88)) (fun (r1 : (AV × AV × AV × AV × AV × AV × AV × AV × AV × AV × AV) → AH → Prop) (s : (AV × AV × AV × AV × AV × AV × AV × AV × AV × AV × AV)) (H : AH) => m_fieldfarelaw7_BestOrderttttttttthtbltthbtthtbl K r0 r1 s.1 s.2.1 s.2.2.1 s.2.2.2.1 s.2.2.2.2.1 s.2.2.2.2.2.1 s.2.2.2.2.2.2.1 s.2.2.2.2.2.2.2.1 s.2.2.2.2.2.2.2.2.1 s.2.2.2.2.2.2.2.2.2.1 s.2.2.2.2.2.2.2.2.2.2 H) (fun (r1 : (AV × AV × AV × AV × AV × AV × AV × AV × AV × AV × AV) → AH → Prop) (a : TE) (H : AH) => (show codeP PP CC (subC (bodyC PP 5) [1, 1, 1, 1, 1, 1, 1, 1, 1, 0, 1, 0, 0, 1, 1, 0, 0, 1, 1, 0, 1, 0, 0]) (exP (fun (a : TE) (H : AH) => r1 (a 0, a 8, a 10, a 13, a 14, a 15, a 82, a 83, a 86, a 87, a 88) H) (m_fieldfarelaw7_BestOrderttttttttthtbltthbttht_k K r0)) a H = codeP PP CC (subC (bodyC PP 5) [1, 1, 1, 1, 1, 1, 1, 1, 1, 0, 1, 0, 0, 1, 1, 0, 0, 1, 1, 0, 1, 0, 0]) (m_fieldfarelaw7_BestOrderttttttttthtbltthbtthtb_k K r0 r1) a H from by kernel_rfl).trans (m_fieldfarelaw7_BestOrderttttttttthtbltthbtthtbl_eq K r0 r1 a H)) a H
  h1.trans h2
theorem m_fieldfarelaw7_BestOrderttttttttthtbltthbttht_eq (K : AV → AH → Prop) (r0 : (AV × AV × AV × AV × AV × AV) → AH → Prop) (a : TE) (H : AH) : codeP PP CC (subC (bodyC PP 5) [1, 1, 1, 1, 1, 1, 1, 1, 1, 0, 1, 0, 0, 1, 1, 0, 0, 1, 1, 0, 1]) (m_fieldfarelaw7_BestOrderttttttttthtbltthbtt_k K r0) a H = m_fieldfarelaw7_BestOrderttttttttthtbltthbtthtb K r0 (a 0) (a 8) (a 10) (a 13) (a 14) (a 15) (a 82) (a 83) (a 86) (a 87) (a 88) H :=
  have h1 : codeP PP CC (subC (bodyC PP 5) [1, 1, 1, 1, 1, 1, 1, 1, 1, 0, 1, 0, 0, 1, 1, 0, 0, 1, 1, 0, 1]) (m_fieldfarelaw7_BestOrderttttttttthtbltthbtt_k K r0) a H = codeP PP CC (subC (bodyC PP 5) [1, 1, 1, 1, 1, 1, 1, 1, 1, 0, 1, 0, 0, 1, 1, 0, 0, 1, 1, 0, 1, 0]) (m_fieldfarelaw7_BestOrderttttttttthtbltthbttht_k K r0) a H := by kernel_rfl
  h1.trans (m_fieldfarelaw7_BestOrderttttttttthtbltthbtthtb_eq K r0 a H)
abbrev m_fieldfarelaw7_BestOrderttttttttthtbltthbtth_k (K : AV → AH → Prop) (r0 : (AV × AV × AV × AV × AV × AV) → AH → Prop) : KP := exP (fun (a : TE) (H : AH) => m_fieldfarelaw7_BestOrderttttttttthtbltthbtthtb K r0 (a 0) (a 8) (a 10) (a 13) (a 14) (a 15) (a 82) (a 83) (a 86) (a 87) (a 88) H) (m_fieldfarelaw7_BestOrderttttttttthtbltthbtt_k K r0)
def m_fieldfarelaw7_BestOrderttttttttthtbltthbtth (K : AV → AH → Prop) (r0 : (AV × AV × AV × AV × AV × AV) → AH → Prop) (x0 x8 x10 x13 x14 x15 x82 x83 : AV) (H : AH) : Prop :=
  outP CC H (w_len PP 32 H x8) fun v1 H1 =>
  m_fieldfarelaw7_BestOrderttttttttthtbltthbtthtb K r0 x0 x8 x10 x13 x14 x15 x82 x83 x8 v1 (.int .i64 0) H1
theorem m_fieldfarelaw7_BestOrderttttttttthtbltthbtth_eq (K : AV → AH → Prop) (r0 : (AV × AV × AV × AV × AV × AV) → AH → Prop) (a : TE) (H : AH) : codeP PP CC (subC (bodyC PP 5) [1, 1, 1, 1, 1, 1, 1, 1, 1, 0, 1, 0, 0, 1, 1, 0, 0, 1, 1, 0]) (m_fieldfarelaw7_BestOrderttttttttthtbltthbtt_k K r0) a H = m_fieldfarelaw7_BestOrderttttttttthtbltthbtth K r0 (a 0) (a 8) (a 10) (a 13) (a 14) (a 15) (a 82) (a 83) H :=
  have h1 : codeP PP CC (subC (bodyC PP 5) [1, 1, 1, 1, 1, 1, 1, 1, 1, 0, 1, 0, 0, 1, 1, 0, 0, 1, 1, 0]) (m_fieldfarelaw7_BestOrderttttttttthtbltthbtt_k K r0) a H = codeP PP CC (subC (bodyC PP 5) [1, 1, 1, 1, 1, 1, 1, 1, 1, 0, 1, 0, 0, 1, 1, 0, 0, 1, 1, 0, 0]) (exP (codeP PP CC (subC (bodyC PP 5) [1, 1, 1, 1, 1, 1, 1, 1, 1, 0, 1, 0, 0, 1, 1, 0, 0, 1, 1, 0, 1]) (m_fieldfarelaw7_BestOrderttttttttthtbltthbtt_k K r0)) (m_fieldfarelaw7_BestOrderttttttttthtbltthbtt_k K r0)) a H := by kernel_rfl
  have h2 : codeP PP CC (subC (bodyC PP 5) [1, 1, 1, 1, 1, 1, 1, 1, 1, 0, 1, 0, 0, 1, 1, 0, 0, 1, 1, 0, 0]) (exP (codeP PP CC (subC (bodyC PP 5) [1, 1, 1, 1, 1, 1, 1, 1, 1, 0, 1, 0, 0, 1, 1, 0, 0, 1, 1, 0, 1]) (m_fieldfarelaw7_BestOrderttttttttthtbltthbtt_k K r0)) (m_fieldfarelaw7_BestOrderttttttttthtbltthbtt_k K r0)) a H = codeP PP CC (subC (bodyC PP 5) [1, 1, 1, 1, 1, 1, 1, 1, 1, 0, 1, 0, 0, 1, 1, 0, 0, 1, 1, 0, 0]) (exP (fun (a : TE) (H : AH) => m_fieldfarelaw7_BestOrderttttttttthtbltthbtthtb K r0 (a 0) (a 8) (a 10) (a 13) (a 14) (a 15) (a 82) (a 83) (a 86) (a 87) (a 88) H) (m_fieldfarelaw7_BestOrderttttttttthtbltthbtt_k K r0)) a H := congrArg (fun k : KE => codeP PP CC (subC (bodyC PP 5) [1, 1, 1, 1, 1, 1, 1, 1, 1, 0, 1, 0, 0, 1, 1, 0, 0, 1, 1, 0, 0]) (exP k (m_fieldfarelaw7_BestOrderttttttttthtbltthbtt_k K r0)) a H) (funext fun a => funext fun H => m_fieldfarelaw7_BestOrderttttttttthtbltthbttht_eq K r0 a H)
  have h2b : codeP PP CC (subC (bodyC PP 5) [1, 1, 1, 1, 1, 1, 1, 1, 1, 0, 1, 0, 0, 1, 1, 0, 0, 1, 1, 0, 0]) (exP (fun (a : TE) (H : AH) => m_fieldfarelaw7_BestOrderttttttttthtbltthbtthtb K r0 (a 0) (a 8) (a 10) (a 13) (a 14) (a 15) (a 82) (a 83) (a 86) (a 87) (a 88) H) (m_fieldfarelaw7_BestOrderttttttttthtbltthbtt_k K r0)) a H = codeP PP CC (subC (bodyC PP 5) [1, 1, 1, 1, 1, 1, 1, 1, 1, 0, 1, 0, 0, 1, 1, 0, 0, 1, 1, 0, 0]) (m_fieldfarelaw7_BestOrderttttttttthtbltthbtth_k K r0) a H := by kernel_rfl
  have h3 : codeP PP CC (subC (bodyC PP 5) [1, 1, 1, 1, 1, 1, 1, 1, 1, 0, 1, 0, 0, 1, 1, 0, 0, 1, 1, 0, 0]) (m_fieldfarelaw7_BestOrderttttttttthtbltthbtth_k K r0) a H = m_fieldfarelaw7_BestOrderttttttttthtbltthbtth K r0 (a 0) (a 8) (a 10) (a 13) (a 14) (a 15) (a 82) (a 83) H := by kernel_rfl
  ((h1.trans h2).trans h2b).trans h3
theorem m_fieldfarelaw7_BestOrderttttttttthtbltthbtt_eq (K : AV → AH → Prop) (r0 : (AV × AV × AV × AV × AV × AV) → AH → Prop) (a : TE) (H : AH) : codeP PP CC (subC (bodyC PP 5) [1, 1, 1, 1, 1, 1, 1, 1, 1, 0, 1, 0, 0, 1, 1, 0, 0, 1, 1]) (m_fieldfarelaw7_BestOrderttttttttthtbltth_k K r0) a H = m_fieldfarelaw7_BestOrderttttttttthtbltthbtth K r0 (a 0) (a 8) (a 10) (a 13) (a 14) (a 15) (a 82) (a 83) H :=
  have h1 : codeP PP CC (subC (bodyC PP 5) [1, 1, 1, 1, 1, 1, 1, 1, 1, 0, 1, 0, 0, 1, 1, 0, 0, 1, 1]) (m_fieldfarelaw7_BestOrderttttttttthtbltth_k K r0) a H = codeP PP CC (subC (bodyC PP 5) [1, 1, 1, 1, 1, 1, 1, 1, 1, 0, 1, 0, 0, 1, 1, 0, 0, 1, 1, 0]) (m_fieldfarelaw7_BestOrderttttttttthtbltthbtt_k K r0) a H := by kernel_rfl
  h1.trans (m_fieldfarelaw7_BestOrderttttttttthtbltthbtth_eq K r0 a H)
abbrev m_fieldfarelaw7_BestOrderttttttttthtbltthbt_k (K : AV → AH → Prop) (r0 : (AV × AV × AV × AV × AV × AV) → AH → Prop) : KP := exP (fun (a : TE) (H : AH) => m_fieldfarelaw7_BestOrderttttttttthtbltthbtth K r0 (a 0) (a 8) (a 10) (a 13) (a 14) (a 15) (a 82) (a 83) H) (m_fieldfarelaw7_BestOrderttttttttthtbltth_k K r0)
def m_fieldfarelaw7_BestOrderttttttttthtbltthbt (K : AV → AH → Prop) (r0 : (AV × AV × AV × AV × AV × AV) → AH → Prop) (x0 x8 x10 x13 x14 x82 x83 : AV) (H : AH) : Prop :=
  m_fieldfarelaw7_BestOrderttttttttthtbltthbtth K r0 x0 x8 x10 x13 x14 (.int .i64 0) x82 x83 H
theorem m_fieldfarelaw7_BestOrderttttttttthtbltthbt_eq (K : AV → AH → Prop) (r0 : (AV × AV × AV × AV × AV × AV) → AH → Prop) (a : TE) (H : AH) : codeP PP CC (subC (bodyC PP 5) [1, 1, 1, 1, 1, 1, 1, 1, 1, 0, 1, 0, 0, 1, 1, 0, 0, 1]) (m_fieldfarelaw7_BestOrderttttttttthtbltth_k K r0) a H = m_fieldfarelaw7_BestOrderttttttttthtbltthbt K r0 (a 0) (a 8) (a 10) (a 13) (a 14) (a 82) (a 83) H :=
  have h1 : codeP PP CC (subC (bodyC PP 5) [1, 1, 1, 1, 1, 1, 1, 1, 1, 0, 1, 0, 0, 1, 1, 0, 0, 1]) (m_fieldfarelaw7_BestOrderttttttttthtbltth_k K r0) a H = codeP PP CC (subC (bodyC PP 5) [1, 1, 1, 1, 1, 1, 1, 1, 1, 0, 1, 0, 0, 1, 1, 0, 0, 1, 0]) (exP (codeP PP CC (subC (bodyC PP 5) [1, 1, 1, 1, 1, 1, 1, 1, 1, 0, 1, 0, 0, 1, 1, 0, 0, 1, 1]) (m_fieldfarelaw7_BestOrderttttttttthtbltth_k K r0)) (m_fieldfarelaw7_BestOrderttttttttthtbltth_k K r0)) a H := by kernel_rfl
  have h2 : codeP PP CC (subC (bodyC PP 5) [1, 1, 1, 1, 1, 1, 1, 1, 1, 0, 1, 0, 0, 1, 1, 0, 0, 1, 0]) (exP (codeP PP CC (subC (bodyC PP 5) [1, 1, 1, 1, 1, 1, 1, 1, 1, 0, 1, 0, 0, 1, 1, 0, 0, 1, 1]) (m_fieldfarelaw7_BestOrderttttttttthtbltth_k K r0)) (m_fieldfarelaw7_BestOrderttttttttthtbltth_k K r0)) a H = codeP PP CC (subC (bodyC PP 5) [1, 1, 1, 1, 1, 1, 1, 1, 1, 0, 1, 0, 0, 1, 1, 0, 0, 1, 0]) (exP (fun (a : TE) (H : AH) => m_fieldfarelaw7_BestOrderttttttttthtbltthbtth K r0 (a 0) (a 8) (a 10) (a 13) (a 14) (a 15) (a 82) (a 83) H) (m_fieldfarelaw7_BestOrderttttttttthtbltth_k K r0)) a H := congrArg (fun k : KE => codeP PP CC (subC (bodyC PP 5) [1, 1, 1, 1, 1, 1, 1, 1, 1, 0, 1, 0, 0, 1, 1, 0, 0, 1, 0]) (exP k (m_fieldfarelaw7_BestOrderttttttttthtbltth_k K r0)) a H) (funext fun a => funext fun H => m_fieldfarelaw7_BestOrderttttttttthtbltthbtt_eq K r0 a H)
  have h2b : codeP PP CC (subC (bodyC PP 5) [1, 1, 1, 1, 1, 1, 1, 1, 1, 0, 1, 0, 0, 1, 1, 0, 0, 1, 0]) (exP (fun (a : TE) (H : AH) => m_fieldfarelaw7_BestOrderttttttttthtbltthbtth K r0 (a 0) (a 8) (a 10) (a 13) (a 14) (a 15) (a 82) (a 83) H) (m_fieldfarelaw7_BestOrderttttttttthtbltth_k K r0)) a H = codeP PP CC (subC (bodyC PP 5) [1, 1, 1, 1, 1, 1, 1, 1, 1, 0, 1, 0, 0, 1, 1, 0, 0, 1, 0]) (m_fieldfarelaw7_BestOrderttttttttthtbltthbt_k K r0) a H := by kernel_rfl
  have h3 : codeP PP CC (subC (bodyC PP 5) [1, 1, 1, 1, 1, 1, 1, 1, 1, 0, 1, 0, 0, 1, 1, 0, 0, 1, 0]) (m_fieldfarelaw7_BestOrderttttttttthtbltthbt_k K r0) a H = m_fieldfarelaw7_BestOrderttttttttthtbltthbt K r0 (a 0) (a 8) (a 10) (a 13) (a 14) (a 82) (a 83) H := by kernel_rfl
  ((h1.trans h2).trans h2b).trans h3
abbrev m_fieldfarelaw7_BestOrderttttttttthtbltthb_k (K : AV → AH → Prop) (r0 : (AV × AV × AV × AV × AV × AV) → AH → Prop) : KP := exP (fun (a : TE) (H : AH) => m_fieldfarelaw7_BestOrderttttttttthtbltthbt K r0 (a 0) (a 8) (a 10) (a 13) (a 14) (a 82) (a 83) H) (m_fieldfarelaw7_BestOrderttttttttthtbltth_k K r0)
def m_fieldfarelaw7_BestOrderttttttttthtbltthb (K : AV → AH → Prop) (r0 : (AV × AV × AV × AV × AV × AV) → AH → Prop) (x0 x8 x10 x13 x82 x83 : AV) (H : AH) : Prop :=
  m_fieldfarelaw7_BestOrderttttttttthtbltthbt K r0 x0 x8 x10 x13 x83 x82 x83 H
theorem m_fieldfarelaw7_BestOrderttttttttthtbltthb_eq (K : AV → AH → Prop) (r0 : (AV × AV × AV × AV × AV × AV) → AH → Prop) (a : TE) (H : AH) : codeP PP CC (subC (bodyC PP 5) [1, 1, 1, 1, 1, 1, 1, 1, 1, 0, 1, 0, 0, 1, 1, 0, 0]) (m_fieldfarelaw7_BestOrderttttttttthtbltth_k K r0) a H = m_fieldfarelaw7_BestOrderttttttttthtbltthb K r0 (a 0) (a 8) (a 10) (a 13) (a 82) (a 83) H :=
  have h1 : codeP PP CC (subC (bodyC PP 5) [1, 1, 1, 1, 1, 1, 1, 1, 1, 0, 1, 0, 0, 1, 1, 0, 0]) (m_fieldfarelaw7_BestOrderttttttttthtbltth_k K r0) a H = codeP PP CC (subC (bodyC PP 5) [1, 1, 1, 1, 1, 1, 1, 1, 1, 0, 1, 0, 0, 1, 1, 0, 0, 0]) (exP (codeP PP CC (subC (bodyC PP 5) [1, 1, 1, 1, 1, 1, 1, 1, 1, 0, 1, 0, 0, 1, 1, 0, 0, 1]) (m_fieldfarelaw7_BestOrderttttttttthtbltth_k K r0)) (m_fieldfarelaw7_BestOrderttttttttthtbltth_k K r0)) a H := by kernel_rfl
  have h2 : codeP PP CC (subC (bodyC PP 5) [1, 1, 1, 1, 1, 1, 1, 1, 1, 0, 1, 0, 0, 1, 1, 0, 0, 0]) (exP (codeP PP CC (subC (bodyC PP 5) [1, 1, 1, 1, 1, 1, 1, 1, 1, 0, 1, 0, 0, 1, 1, 0, 0, 1]) (m_fieldfarelaw7_BestOrderttttttttthtbltth_k K r0)) (m_fieldfarelaw7_BestOrderttttttttthtbltth_k K r0)) a H = codeP PP CC (subC (bodyC PP 5) [1, 1, 1, 1, 1, 1, 1, 1, 1, 0, 1, 0, 0, 1, 1, 0, 0, 0]) (exP (fun (a : TE) (H : AH) => m_fieldfarelaw7_BestOrderttttttttthtbltthbt K r0 (a 0) (a 8) (a 10) (a 13) (a 14) (a 82) (a 83) H) (m_fieldfarelaw7_BestOrderttttttttthtbltth_k K r0)) a H := congrArg (fun k : KE => codeP PP CC (subC (bodyC PP 5) [1, 1, 1, 1, 1, 1, 1, 1, 1, 0, 1, 0, 0, 1, 1, 0, 0, 0]) (exP k (m_fieldfarelaw7_BestOrderttttttttthtbltth_k K r0)) a H) (funext fun a => funext fun H => m_fieldfarelaw7_BestOrderttttttttthtbltthbt_eq K r0 a H)
  have h2b : codeP PP CC (subC (bodyC PP 5) [1, 1, 1, 1, 1, 1, 1, 1, 1, 0, 1, 0, 0, 1, 1, 0, 0, 0]) (exP (fun (a : TE) (H : AH) => m_fieldfarelaw7_BestOrderttttttttthtbltthbt K r0 (a 0) (a 8) (a 10) (a 13) (a 14) (a 82) (a 83) H) (m_fieldfarelaw7_BestOrderttttttttthtbltth_k K r0)) a H = codeP PP CC (subC (bodyC PP 5) [1, 1, 1, 1, 1, 1, 1, 1, 1, 0, 1, 0, 0, 1, 1, 0, 0, 0]) (m_fieldfarelaw7_BestOrderttttttttthtbltthb_k K r0) a H := by kernel_rfl
  have h3 : codeP PP CC (subC (bodyC PP 5) [1, 1, 1, 1, 1, 1, 1, 1, 1, 0, 1, 0, 0, 1, 1, 0, 0, 0]) (m_fieldfarelaw7_BestOrderttttttttthtbltthb_k K r0) a H = m_fieldfarelaw7_BestOrderttttttttthtbltthb K r0 (a 0) (a 8) (a 10) (a 13) (a 82) (a 83) H := by kernel_rfl
  ((h1.trans h2).trans h2b).trans h3
theorem m_fieldfarelaw7_BestOrderttttttttthtbltth_eq (K : AV → AH → Prop) (r0 : (AV × AV × AV × AV × AV × AV) → AH → Prop) (a : TE) (H : AH) : codeP PP CC (subC (bodyC PP 5) [1, 1, 1, 1, 1, 1, 1, 1, 1, 0, 1, 0, 0, 1, 1, 0]) (m_fieldfarelaw7_BestOrderttttttttthtbltt_k K r0) a H = m_fieldfarelaw7_BestOrderttttttttthtbltthb K r0 (a 0) (a 8) (a 10) (a 13) (a 82) (a 83) H :=
  have h1 : codeP PP CC (subC (bodyC PP 5) [1, 1, 1, 1, 1, 1, 1, 1, 1, 0, 1, 0, 0, 1, 1, 0]) (m_fieldfarelaw7_BestOrderttttttttthtbltt_k K r0) a H = codeP PP CC (subC (bodyC PP 5) [1, 1, 1, 1, 1, 1, 1, 1, 1, 0, 1, 0, 0, 1, 1, 0, 0]) (m_fieldfarelaw7_BestOrderttttttttthtbltth_k K r0) a H := by kernel_rfl
  h1.trans (m_fieldfarelaw7_BestOrderttttttttthtbltthb_eq K r0 a H)
theorem m_fieldfarelaw7_BestOrderttttttttthtbltt_eq (K : AV → AH → Prop) (r0 : (AV × AV × AV × AV × AV × AV) → AH → Prop) (a : TE) (H : AH) : codeP PP CC (subC (bodyC PP 5) [1, 1, 1, 1, 1, 1, 1, 1, 1, 0, 1, 0, 0, 1, 1]) (m_fieldfarelaw7_BestOrderttttttttthtb_k K r0) a H = m_fieldfarelaw7_BestOrderttttttttthtbltthb K r0 (a 0) (a 8) (a 10) (a 13) (a 82) (a 83) H :=
  have h1 : codeP PP CC (subC (bodyC PP 5) [1, 1, 1, 1, 1, 1, 1, 1, 1, 0, 1, 0, 0, 1, 1]) (m_fieldfarelaw7_BestOrderttttttttthtb_k K r0) a H = codeP PP CC (subC (bodyC PP 5) [1, 1, 1, 1, 1, 1, 1, 1, 1, 0, 1, 0, 0, 1, 1, 0]) (m_fieldfarelaw7_BestOrderttttttttthtbltt_k K r0) a H := by kernel_rfl
  h1.trans (m_fieldfarelaw7_BestOrderttttttttthtbltth_eq K r0 a H)
abbrev m_fieldfarelaw7_BestOrderttttttttthtblt_k (K : AV → AH → Prop) (r0 : (AV × AV × AV × AV × AV × AV) → AH → Prop) : KP := exP (fun (a : TE) (H : AH) => m_fieldfarelaw7_BestOrderttttttttthtbltthb K r0 (a 0) (a 8) (a 10) (a 13) (a 82) (a 83) H) (m_fieldfarelaw7_BestOrderttttttttthtb_k K r0)
def m_fieldfarelaw7_BestOrderttttttttthtblt (K : AV → AH → Prop) (r0 : (AV × AV × AV × AV × AV × AV) → AH → Prop) (x0 x8 x10 x13 x82 x83 x84 : AV) (H : AH) : Prop :=
  condP x84
  (m_fieldfarelaw7_BestOrderttttttttthtbltthb K r0 x0 x8 x10 x13 x82 x83 H)
  (outP CC H (some (.enter 23 [x10, x13])) fun v1 H1 =>
  guardP (boolIs true v1) H1 (outP CC H1 (some (.val x10 H1))) fun v2 H2 =>
  guardP (boolIs true v1) H2 (outP CC H2 (w_len PP 32 H2 v2)) fun v3 H3 =>
  guardP (boolIs true v1) H3 (outP CC H3 (some (.val x0 H3))) fun v4 H4 =>
  guardP (boolIs true v1) H4 (outP CC H4 (some (.val x8 H4))) fun v5 H5 =>
  guardP (boolIs true v1) H5 (outP CC H5 (w_len PP 32 H5 v5)) fun v6 H6 =>
  guardP (boolIs true v1) H6 (outP CC H6 (w_min2 H6 v4 v6)) fun v7 H7 =>
  guardP (boolIs true v1) H7 (outP CC H7 (w_int .eql H7 v3 v7)) fun v8 H8 =>
  outP CC H8 (w_pick H8 v1 v8 (.bool false)) fun v9 H9 =>
  K v9 H9)
theorem m_fieldfarelaw7_BestOrderttttttttthtblt_eq (K : AV → AH → Prop) (r0 : (AV × AV × AV × AV × AV × AV) → AH → Prop) (a : TE) (H : AH) : codeP PP CC (subC (bodyC PP 5) [1, 1, 1, 1, 1, 1, 1, 1, 1, 0, 1, 0, 0, 1]) (m_fieldfarelaw7_BestOrderttttttttthtb_k K r0) a H = m_fieldfarelaw7_BestOrderttttttttthtblt K r0 (a 0) (a 8) (a 10) (a 13) (a 82) (a 83) (a 84) H :=
  have h1 : codeP PP CC (subC (bodyC PP 5) [1, 1, 1, 1, 1, 1, 1, 1, 1, 0, 1, 0, 0, 1]) (m_fieldfarelaw7_BestOrderttttttttthtb_k K r0) a H = codeP PP CC (subC (bodyC PP 5) [1, 1, 1, 1, 1, 1, 1, 1, 1, 0, 1, 0, 0, 1, 0]) (exP (codeP PP CC (subC (bodyC PP 5) [1, 1, 1, 1, 1, 1, 1, 1, 1, 0, 1, 0, 0, 1, 1]) (m_fieldfarelaw7_BestOrderttttttttthtb_k K r0)) (m_fieldfarelaw7_BestOrderttttttttthtb_k K r0)) a H := by kernel_rfl
  have h2 : codeP PP CC (subC (bodyC PP 5) [1, 1, 1, 1, 1, 1, 1, 1, 1, 0, 1, 0, 0, 1, 0]) (exP (codeP PP CC (subC (bodyC PP 5) [1, 1, 1, 1, 1, 1, 1, 1, 1, 0, 1, 0, 0, 1, 1]) (m_fieldfarelaw7_BestOrderttttttttthtb_k K r0)) (m_fieldfarelaw7_BestOrderttttttttthtb_k K r0)) a H = codeP PP CC (subC (bodyC PP 5) [1, 1, 1, 1, 1, 1, 1, 1, 1, 0, 1, 0, 0, 1, 0]) (exP (fun (a : TE) (H : AH) => m_fieldfarelaw7_BestOrderttttttttthtbltthb K r0 (a 0) (a 8) (a 10) (a 13) (a 82) (a 83) H) (m_fieldfarelaw7_BestOrderttttttttthtb_k K r0)) a H := congrArg (fun k : KE => codeP PP CC (subC (bodyC PP 5) [1, 1, 1, 1, 1, 1, 1, 1, 1, 0, 1, 0, 0, 1, 0]) (exP k (m_fieldfarelaw7_BestOrderttttttttthtb_k K r0)) a H) (funext fun a => funext fun H => m_fieldfarelaw7_BestOrderttttttttthtbltt_eq K r0 a H)
  have h2b : codeP PP CC (subC (bodyC PP 5) [1, 1, 1, 1, 1, 1, 1, 1, 1, 0, 1, 0, 0, 1, 0]) (exP (fun (a : TE) (H : AH) => m_fieldfarelaw7_BestOrderttttttttthtbltthb K r0 (a 0) (a 8) (a 10) (a 13) (a 82) (a 83) H) (m_fieldfarelaw7_BestOrderttttttttthtb_k K r0)) a H = codeP PP CC (subC (bodyC PP 5) [1, 1, 1, 1, 1, 1, 1, 1, 1, 0, 1, 0, 0, 1, 0]) (m_fieldfarelaw7_BestOrderttttttttthtblt_k K r0) a H := by kernel_rfl
  have h3 : codeP PP CC (subC (bodyC PP 5) [1, 1, 1, 1, 1, 1, 1, 1, 1, 0, 1, 0, 0, 1, 0]) (m_fieldfarelaw7_BestOrderttttttttthtblt_k K r0) a H = m_fieldfarelaw7_BestOrderttttttttthtblt K r0 (a 0) (a 8) (a 10) (a 13) (a 82) (a 83) (a 84) H := by kernel_rfl
  ((h1.trans h2).trans h2b).trans h3
abbrev m_fieldfarelaw7_BestOrderttttttttthtbl_k (K : AV → AH → Prop) (r0 : (AV × AV × AV × AV × AV × AV) → AH → Prop) : KP := exP (fun (a : TE) (H : AH) => m_fieldfarelaw7_BestOrderttttttttthtblt K r0 (a 0) (a 8) (a 10) (a 13) (a 82) (a 83) (a 84) H) (m_fieldfarelaw7_BestOrderttttttttthtb_k K r0)
def m_fieldfarelaw7_BestOrderttttttttthtbl (K : AV → AH → Prop) (r0 : (AV × AV × AV × AV × AV × AV) → AH → Prop) (x0 x8 x10 x13 x82 x83 : AV) (H : AH) : Prop :=
  outP CC H (w_int .lss H x83 x82) fun v1 H1 =>
  m_fieldfarelaw7_BestOrderttttttttthtblt K r0 x0 x8 x10 x13 x82 x83 v1 H1
theorem m_fieldfarelaw7_BestOrderttttttttthtbl_eq (K : AV → AH → Prop) (r0 : (AV × AV × AV × AV × AV × AV) → AH → Prop) (a : TE) (H : AH) : codeP PP CC (subC (bodyC PP 5) [1, 1, 1, 1, 1, 1, 1, 1, 1, 0, 1, 0, 0]) (m_fieldfarelaw7_BestOrderttttttttthtb_k K r0) a H = m_fieldfarelaw7_BestOrderttttttttthtbl K r0 (a 0) (a 8) (a 10) (a 13) (a 82) (a 83) H :=
  have h1 : codeP PP CC (subC (bodyC PP 5) [1, 1, 1, 1, 1, 1, 1, 1, 1, 0, 1, 0, 0]) (m_fieldfarelaw7_BestOrderttttttttthtb_k K r0) a H = codeP PP CC (subC (bodyC PP 5) [1, 1, 1, 1, 1, 1, 1, 1, 1, 0, 1, 0, 0, 0]) (exP (codeP PP CC (subC (bodyC PP 5) [1, 1, 1, 1, 1, 1, 1, 1, 1, 0, 1, 0, 0, 1]) (m_fieldfarelaw7_BestOrderttttttttthtb_k K r0)) (m_fieldfarelaw7_BestOrderttttttttthtb_k K r0)) a H := by kernel_rfl
  have h2 : codeP PP CC (subC (bodyC PP 5) [1, 1, 1, 1, 1, 1, 1, 1, 1, 0, 1, 0, 0, 0]) (exP (codeP PP CC (subC (bodyC PP 5) [1, 1, 1, 1, 1, 1, 1, 1, 1, 0, 1, 0, 0, 1]) (m_fieldfarelaw7_BestOrderttttttttthtb_k K r0)) (m_fieldfarelaw7_BestOrderttttttttthtb_k K r0)) a H = codeP PP CC (subC (bodyC PP 5) [1, 1, 1, 1, 1, 1, 1, 1, 1, 0, 1, 0, 0, 0]) (exP (fun (a : TE) (H : AH) => m_fieldfarelaw7_BestOrderttttttttthtblt K r0 (a 0) (a 8) (a 10) (a 13) (a 82) (a 83) (a 84) H) (m_fieldfarelaw7_BestOrderttttttttthtb_k K r0)) a H := congrArg (fun k : KE => codeP PP CC (subC (bodyC PP 5) [1, 1, 1, 1, 1, 1, 1, 1, 1, 0, 1, 0, 0, 0]) (exP k (m_fieldfarelaw7_BestOrderttttttttthtb_k K r0)) a H) (funext fun a => funext fun H => m_fieldfarelaw7_BestOrderttttttttthtblt_eq K r0 a H)
  have h2b : codeP PP CC (subC (bodyC PP 5) [1, 1, 1, 1, 1, 1, 1, 1, 1, 0, 1, 0, 0, 0]) (exP (fun (a : TE) (H : AH) => m_fieldfarelaw7_BestOrderttttttttthtblt K r0 (a 0) (a 8) (a 10) (a 13) (a 82) (a 83) (a 84) H) (m_fieldfarelaw7_BestOrderttttttttthtb_k K r0)) a H = codeP PP CC (subC (bodyC PP 5) [1, 1, 1, 1, 1, 1, 1, 1, 1, 0, 1, 0, 0, 0]) (m_fieldfarelaw7_BestOrderttttttttthtbl_k K r0) a H := by kernel_rfl
  have h3 : codeP PP CC (subC (bodyC PP 5) [1, 1, 1, 1, 1, 1, 1, 1, 1, 0, 1, 0, 0, 0]) (m_fieldfarelaw7_BestOrderttttttttthtbl_k K r0) a H = m_fieldfarelaw7_BestOrderttttttttthtbl K r0 (a 0) (a 8) (a 10) (a 13) (a 82) (a 83) H := by kernel_rfl
  ((h1.trans h2).trans h2b).trans h3
def m_fieldfarelaw7_BestOrderttttttttthtb (K : AV → AH → Prop) (x0 x8 x10 x13 x82 x83 : AV) (H : AH) : Prop :=
  loopP (fun (r0 : (AV × AV × AV × AV × AV × AV) → AH → Prop) (s : (AV × AV × AV × AV × AV × AV)) (H : AH) => m_fieldfarelaw7_BestOrderttttttttthtbl K r0 s.1 s.2.1 s.2.2.1 s.2.2.2.1 s.2.2.2.2.1 s.2.2.2.2.2 H) (x0, x8, x10, x13, x82, x83) H
theorem m_fieldfarelaw7_BestOrderttttttttthtb_eq (K : AV → AH → Prop) (a : TE) (H : AH) : codeP PP CC (subC (bodyC PP 5) [1, 1, 1, 1, 1, 1, 1, 1, 1, 0, 1, 0]) (m_fieldfarelaw7_BestOrdertttttttttht_k K) a H = m_fieldfarelaw7_BestOrderttttttttthtb K (a 0) (a 8) (a 10) (a 13) (a 82) (a 83) H :=
  have h1 : codeP PP CC (subC (bodyC PP 5) [1, 1, 1, 1, 1, 1, 1, 1, 1, 0, 1, 0]) (m_fieldfarelaw7_BestOrdertttttttttht_k K) a H = loopP (fun (rec : KE) => codeP PP CC (subC (bodyC PP 5) [1, 1, 1, 1, 1, 1, 1, 1, 1, 0, 1, 0, 0]) (exP rec (m_fieldfarelaw7_BestOrdertttttttttht_k K))) a H := by kernel_rfl
  have h2 := loopP_iso (F := fun (rec : KE) => codeP PP CC (subC (bodyC PP 5) [1, 1, 1, 1, 1, 1, 1, 1, 1, 0, 1, 0, 0]) (exP rec (m_fieldfarelaw7_BestOrdertttttttttht_k K))) (S := (AV × AV × AV × AV × AV × AV)) (fun a => (a 0, a 8, a 10, a 13, a 82, a 83)) (fun (r0 : (AV × AV × AV × AV × AV × AV) → AH → Prop) (s : (AV × AV × AV × AV × AV × AV)) (H : AH) => m_fieldfarelaw7_BestOrderttttttttthtbl K r0 s.1 s.2.1 s.2.2.1 s.2.2.2.1 s.2.2.2.2.1 s.2.2.2.2.2 H) (fun (r0 : (AV × AV × AV × AV × AV × AV) → AH → Prop) (a : TE) (H : AH) => (show codeP PP CC (subC (bodyC PP 5) [1, 1, 1, 1, 1, 1, 1, 1, 1, 0, 1, 0, 0]) (exP (fun (a : TE) (H : AH) => r0 (a 0, a 8, a 10, a 13, a 82, a 83) H) (m_fieldfarelaw7_BestOrdertttttttttht_k K)) a H = codeP PP CC (subC (bodyC PP 5) [1, 1, 1, 1, 1, 1, 1, 1, 1, 0, 1, 0, 0]) (m_fieldfarelaw7_BestOrderttttttttthtb_k K r0) a H from by kernel_rfl).trans (m_fieldfarelaw7_BestOrderttttttttthtbl_eq K r0 a H)) a H
  h1.trans h2
theorem m_fieldfarelaw7_BestOrdertttttttttht_eq (K : AV → AH → Prop) (a : TE) (H : AH) : codeP PP CC (subC (bodyC PP 5) [1, 1, 1, 1, 1, 1, 1, 1, 1, 0, 1]) (m_fieldfarelaw7_BestOrderttttttttt_k K) a H = m_fieldfarelaw7_BestOrderttttttttthtb K (a 0) (a 8) (a 10) (a 13) (a 82) (a 83) H :=
  have h1 : codeP PP CC (subC (bodyC PP 5) [1, 1, 1, 1, 1, 1, 1, 1, 1, 0, 1]) (m_fieldfarelaw7_BestOrderttttttttt_k K) a H = codeP PP CC (subC (bodyC PP 5) [1, 1, 1, 1, 1, 1, 1, 1, 1, 0, 1, 0]) (m_fieldfarelaw7_BestOrdertttttttttht_k K) a H := by kernel_rfl
  h1.trans (m_fieldfarelaw7_BestOrderttttttttthtb_eq K a H)
abbrev m_fieldfarelaw7_BestOrderttttttttth_k (K : AV → AH → Prop) : KP := exP (fun (a : TE) (H : AH) => m_fieldfarelaw7_BestOrderttttttttthtb K (a 0) (a 8) (a 10) (a 13) (a 82) (a 83) H) (m_fieldfarelaw7_BestOrderttttttttt_k K)
def m_fieldfarelaw7_BestOrderttttttttth (K : AV → AH → Prop) (x0 x8 x10 x13 : AV) (H : AH) : Prop :=
  outP CC H (w_len PP 32 H x10) fun v1 H1 =>
  m_fieldfarelaw7_BestOrderttttttttthtb K x0 x8 x10 x13 v1 (.int .i64 0) H1
theorem m_fieldfarelaw7_BestOrderttttttttth_eq (K : AV → AH → Prop) (a : TE) (H : AH) : codeP PP CC (subC (bodyC PP 5) [1, 1, 1, 1, 1, 1, 1, 1, 1, 0]) (m_fieldfarelaw7_BestOrderttttttttt_k K) a H = m_fieldfarelaw7_BestOrderttttttttth K (a 0) (a 8) (a 10) (a 13) H :=
  have h1 : codeP PP CC (subC (bodyC PP 5) [1, 1, 1, 1, 1, 1, 1, 1, 1, 0]) (m_fieldfarelaw7_BestOrderttttttttt_k K) a H = codeP PP CC (subC (bodyC PP 5) [1, 1, 1, 1, 1, 1, 1, 1, 1, 0, 0]) (exP (codeP PP CC (subC (bodyC PP 5) [1, 1, 1, 1, 1, 1, 1, 1, 1, 0, 1]) (m_fieldfarelaw7_BestOrderttttttttt_k K)) (m_fieldfarelaw7_BestOrderttttttttt_k K)) a H := by kernel_rfl
  have h2 : codeP PP CC (subC (bodyC PP 5) [1, 1, 1, 1, 1, 1, 1, 1, 1, 0, 0]) (exP (codeP PP CC (subC (bodyC PP 5) [1, 1, 1, 1, 1, 1, 1, 1, 1, 0, 1]) (m_fieldfarelaw7_BestOrderttttttttt_k K)) (m_fieldfarelaw7_BestOrderttttttttt_k K)) a H = codeP PP CC (subC (bodyC PP 5) [1, 1, 1, 1, 1, 1, 1, 1, 1, 0, 0]) (exP (fun (a : TE) (H : AH) => m_fieldfarelaw7_BestOrderttttttttthtb K (a 0) (a 8) (a 10) (a 13) (a 82) (a 83) H) (m_fieldfarelaw7_BestOrderttttttttt_k K)) a H := congrArg (fun k : KE => codeP PP CC (subC (bodyC PP 5) [1, 1, 1, 1, 1, 1, 1, 1, 1, 0, 0]) (exP k (m_fieldfarelaw7_BestOrderttttttttt_k K)) a H) (funext fun a => funext fun H => m_fieldfarelaw7_BestOrdertttttttttht_eq K a H)
  have h2b : codeP PP CC (subC (bodyC PP 5) [1, 1, 1, 1, 1, 1, 1, 1, 1, 0, 0]) (exP (fun (a : TE) (H : AH) => m_fieldfarelaw7_BestOrderttttttttthtb K (a 0) (a 8) (a 10) (a 13) (a 82) (a 83) H) (m_fieldfarelaw7_BestOrderttttttttt_k K)) a H = codeP PP CC (subC (bodyC PP 5) [1, 1, 1, 1, 1, 1, 1, 1, 1, 0, 0]) (m_fieldfarelaw7_BestOrderttttttttth_k K) a H := by kernel_rfl
  have h3 : codeP PP CC (subC (bodyC PP 5) [1, 1, 1, 1, 1, 1, 1, 1, 1, 0, 0]) (m_fieldfarelaw7_BestOrderttttttttth_k K) a H = m_fieldfarelaw7_BestOrderttttttttth K (a 0) (a 8) (a 10) (a 13) H := by kernel_rfl
  ((h1.trans h2).trans h2b).trans h3
theorem m_fieldfarelaw7_BestOrderttttttttt_eq (K : AV → AH → Prop) (a : TE) (H : AH) : codeP PP CC (subC (bodyC PP 5) [1, 1, 1, 1, 1, 1, 1, 1, 1]) (m_fieldfarelaw7_BestOrder_K K) a H = m_fieldfarelaw7_BestOrderttttttttth K (a 0) (a 8) (a 10) (a 13) H :=
  have h1 : codeP PP CC (subC (bodyC PP 5) [1, 1, 1, 1, 1, 1, 1, 1, 1]) (m_fieldfarelaw7_BestOrder_K K) a H = codeP PP CC (subC (bodyC PP 5) [1, 1, 1, 1, 1, 1, 1, 1, 1, 0]) (m_fieldfarelaw7_BestOrderttttttttt_k K) a H := by kernel_rfl
  h1.trans (m_fieldfarelaw7_BestOrderttttttttth_eq K a H)
abbrev m_fieldfarelaw7_BestOrdertttttttt_k (K : AV → AH → Prop) : KP := exP (fun (a : TE) (H : AH) => m_fieldfarelaw7_BestOrderttttttttth K (a 0) (a 8) (a 10) (a 13) H) (m_fieldfarelaw7_BestOrder_K K)
def m_fieldfarelaw7_BestOrdertttttttt (K : AV → AH → Prop) (x0 x8 x10 : AV) (H : AH) : Prop :=
  outP CC H (some (.enter 25 [x0, x8])) fun v1 H1 =>
  m_fieldfarelaw7_BestOrderttttttttth K x0 x8 x10 v1 H1
theorem m_fieldfarelaw7_BestOrdertttttttt_eq (K : AV → AH → Prop) (a : TE) (H : AH) : codeP PP CC (subC (bodyC PP 5) [1, 1, 1, 1, 1, 1, 1, 1]) (m_fieldfarelaw7_BestOrder_K K) a H = m_fieldfarelaw7_BestOrdertttttttt K (a 0) (a 8) (a 10) H :=
  have h1 : codeP PP CC (subC (bodyC PP 5) [1, 1, 1, 1, 1, 1, 1, 1]) (m_fieldfarelaw7_BestOrder_K K) a H = codeP PP CC (subC (bodyC PP 5) [1, 1, 1, 1, 1, 1, 1, 1, 0]) (exP (codeP PP CC (subC (bodyC PP 5) [1, 1, 1, 1, 1, 1, 1, 1, 1]) (m_fieldfarelaw7_BestOrder_K K)) (m_fieldfarelaw7_BestOrder_K K)) a H := by kernel_rfl
  have h2 : codeP PP CC (subC (bodyC PP 5) [1, 1, 1, 1, 1, 1, 1, 1, 0]) (exP (codeP PP CC (subC (bodyC PP 5) [1, 1, 1, 1, 1, 1, 1, 1, 1]) (m_fieldfarelaw7_BestOrder_K K)) (m_fieldfarelaw7_BestOrder_K K)) a H = codeP PP CC (subC (bodyC PP 5) [1, 1, 1, 1, 1, 1, 1, 1, 0]) (exP (fun (a : TE) (H : AH) => m_fieldfarelaw7_BestOrderttttttttth K (a 0) (a 8) (a 10) (a 13) H) (m_fieldfarelaw7_BestOrder_K K)) a H := congrArg (fun k : KE => codeP PP CC (subC (bodyC PP 5) [1, 1, 1, 1, 1, 1, 1, 1, 0]) (exP k (m_fieldfarelaw7_BestOrder_K K)) a H) (funext fun a => funext fun H => m_fieldfarelaw7_BestOrderttttttttt_eq K a H)
  have h2b : codeP PP CC (subC (bodyC PP 5) [1, 1, 1, 1, 1, 1, 1, 1, 0]) (exP (fun (a : TE) (H : AH) => m_fieldfarelaw7_BestOrderttttttttth K (a 0) (a 8) (a 10) (a 13) H) (m_fieldfarelaw7_BestOrder_K K)) a H = codeP PP CC (subC (bodyC PP 5) [1, 1, 1, 1, 1, 1, 1, 1, 0]) (m_fieldfarelaw7_BestOrdertttttttt_k K) a H := by kernel_rfl
  have h3 : codeP PP CC (subC (bodyC PP 5) [1, 1, 1, 1, 1, 1, 1, 1, 0]) (m_fieldfarelaw7_BestOrdertttttttt_k K) a H = m_fieldfarelaw7_BestOrdertttttttt K (a 0) (a 8) (a 10) H := by kernel_rfl
  ((h1.trans h2).trans h2b).trans h3
abbrev m_fieldfarelaw7_BestOrderttttttt_k (K : AV → AH → Prop) : KP := exP (fun (a : TE) (H : AH) => m_fieldfarelaw7_BestOrdertttttttt K (a 0) (a 8) (a 10) H) (m_fieldfarelaw7_BestOrder_K K)
abbrev m_fieldfarelaw7_BestOrdertttttttht_k (K : AV → AH → Prop) : KP := blockP 2 (m_fieldfarelaw7_BestOrderttttttt_k K)
abbrev m_fieldfarelaw7_BestOrderttttttthtb_k (K : AV → AH → Prop) (r0 : (AV × AV × AV × AV × AV × AV) → AH → Prop) : KP := exP (fun (a : TE) (H : AH) => r0 (a 0, a 2, a 8, a 10, a 49, a 50) H) (m_fieldfarelaw7_BestOrdertttttttht_k K)
def m_fieldfarelaw7_BestOrderttttttthtbl (K : AV → AH → Prop) (r0 : (AV × AV × AV × AV × AV × AV) → AH → Prop) (x0 x2 x8 x10 x49 x50 : AV) (H : AH) : Prop :=
  outP CC H (w_int .lss H x50 x49) fun v1 H1 =>
  condP v1
  (outP CC H1 (w_int .mul H1 x50 (.int .i64 7)) fun v2 H2 =>
  outP CC H2 (w_int .rem H2 x2 (.int .i64 30)) fun v3 H3 =>
  outP CC H3 (w_int .add H3 v3 (.int .i64 30)) fun v4 H4 =>
  outP CC H4 (w_int .rem H4 v4 (.int .i64 30)) fun v5 H5 =>
  outP CC H5 (w_int .add H5 v2 v5) fun v6 H6 =>
  outP CC H6 (w_len PP 32 H6 x8) fun v7 H7 =>
  outP CC H7 (w_int .rem H7 v6 v7) fun v8 H8 =>
  outP CC H8 (w_indexAddr (.sl 2) H8 x8 v8) fun v9 H9 =>
  outP CC H9 (w_load (some 2) H9 v9) fun v10 H10 =>
  outP CC H10 (w_indexAddr (.sl 2) H10 x8 x50) fun v11 H11 =>
  outP CC H11 (w_load (some 2) H11 v11) fun v12 H12 =>
  outP CC H12 (w_indexAddr (.sl 2) H12 x8 x50) fun v13 H13 =>
  outP CC H13 (w_store 2 H13 v13 v10) fun _v14 H14 =>
  outP CC H14 (w_indexAddr (.sl 2) H14 x8 v8) fun v15 H15 =>
  outP CC H15 (w_store 2 H15 v15 v12) fun _v16 H16 =>
  outP CC H16 (w_int .add H16 x50 (.int .i64 1)) fun v17 H17 =>
  r0 (x0, x2, x8, x10, x49, v17) H17)
  (m_fieldfarelaw7_BestOrdertttttttt K x0 x8 x10 H1)
theorem m_fieldfarelaw7_BestOrderttttttthtbl_eq (K : AV → AH → Prop) (r0 : (AV × AV × AV × AV × AV × AV) → AH → Prop) (a : TE) (H : AH) : codeP PP CC (subC (bodyC PP 5) [1, 1, 1, 1, 1, 1, 1, 0, 1, 0, 0]) (m_fieldfarelaw7_BestOrderttttttthtb_k K r0) a H = m_fieldfarelaw7_BestOrderttttttthtbl K r0 (a 0) (a 2) (a 8) (a 10) (a 49) (a 50) H :=
  by kernel_rfl
def m_fieldfarelaw7_BestOrderttttttthtb (K : AV → AH → Prop) (x0 x2 x8 x10 x49 x50 : AV) (H : AH) : Prop :=
  loopP (fun (r0 : (AV × AV × AV × AV × AV × AV) → AH → Prop) (s : (AV × AV × AV × AV × AV × AV)) (H : AH) => m_fieldfarelaw7_BestOrderttttttthtbl K r0 s.1 s.2.1 s.2.2.1 s.2.2.2.1 s.2.2.2.2.1 s.2.2.2.2.2 H) (x0, x2, x8, x10, x49, x50) H
theorem m_fieldfarelaw7_BestOrderttttttthtb_eq (K : AV → AH → Prop) (a : TE) (H : AH) : codeP PP CC (subC (bodyC PP 5) [1, 1, 1, 1, 1, 1, 1, 0, 1, 0]) (m_fieldfarelaw7_BestOrdertttttttht_k K) a H = m_fieldfarelaw7_BestOrderttttttthtb K (a 0) (a 2) (a 8) (a 10) (a 49) (a 50) H :=
  have h1 : codeP PP CC (subC (bodyC PP 5) [1, 1, 1, 1, 1, 1, 1, 0, 1, 0]) (m_fieldfarelaw7_BestOrdertttttttht_k K) a H = loopP (fun (rec : KE) => codeP PP CC (subC (bodyC PP 5) [1, 1, 1, 1, 1, 1, 1, 0, 1, 0, 0]) (exP rec (m_fieldfarelaw7_BestOrdertttttttht_k K))) a H := by kernel_rfl
  have h2 := loopP_iso (F := fun (rec : KE) => codeP PP CC (subC (bodyC PP 5) [1, 1, 1, 1, 1, 1, 1, 0, 1, 0, 0]) (exP rec (m_fieldfarelaw7_BestOrdertttttttht_k K))) (S := (AV × AV × AV × AV × AV × AV)) (fun a => (a 0, a 2, a 8, a 10, a 49, a 50)) (fun (r0 : (AV × AV × AV × AV × AV × AV) → AH → Prop) (s : (AV × AV × AV × AV × AV × AV)) (H : AH) => m_fieldfarelaw7_BestOrderttttttthtbl K r0 s.1 s.2.1 s.2.2.1 s.2.2.2.1 s.2.2.2.2.1 s.2.2.2.2.2 H) (fun (r0 : (AV × AV × AV × AV × AV × AV) → AH → Prop) (a : TE) (H : AH) => (show codeP PP CC (subC (bodyC PP 5) [1, 1, 1, 1, 1, 1, 1, 0, 1, 0, 0]) (exP (fun (a : TE) (H : AH) => r0 (a 0, a 2, a 8, a 10, a 49, a 50) H) (m_fieldfarelaw7_BestOrdertttttttht_k K)) a H = codeP PP CC (subC (bodyC PP 5) [1, 1, 1, 1, 1, 1, 1, 0, 1, 0, 0]) (m_fieldfarelaw7_BestOrderttttttthtb_k K r0) a H from by kernel_rfl).trans (m_fieldfarelaw7_BestOrderttttttthtbl_eq K r0 a H)) a H
  h1.trans h2
theorem m_fieldfarelaw7_BestOrdertttttttht_eq (K : AV → AH → Prop) (a : TE) (H : AH) : codeP PP CC (subC (bodyC PP 5) [1, 1, 1, 1, 1, 1, 1, 0, 1]) (m_fieldfarelaw7_BestOrderttttttt_k K) a H = m_fieldfarelaw7_BestOrderttttttthtb K (a 0) (a 2) (a 8) (a 10) (a 49) (a 50) H :=
  have h1 : codeP PP CC (subC (bodyC PP 5) [1, 1, 1, 1, 1, 1, 1, 0, 1]) (m_fieldfarelaw7_BestOrderttttttt_k K) a H = codeP PP CC (subC (bodyC PP 5) [1, 1, 1, 1, 1, 1, 1, 0, 1, 0]) (m_fieldfarelaw7_BestOrdertttttttht_k K) a H := by kernel_rfl
  h1.trans (m_fieldfarelaw7_BestOrderttttttthtb_eq K a H)
abbrev m_fieldfarelaw7_BestOrderttttttth_k (K : AV → AH → Prop) : KP := exP (fun (a : TE) (H : AH) => m_fieldfarelaw7_BestOrderttttttthtb K (a 0) (a 2) (a 8) (a 10) (a 49) (a 50) H) (m_fieldfarelaw7_BestOrderttttttt_k K)
def m_fieldfarelaw7_BestOrderttttttth (K : AV → AH → Prop) (x0 x2 x8 x10 : AV) (H : AH) : Prop :=
  outP CC H (w_len PP 32 H x8) fun v1 H1 =>
  m_fieldfarelaw7_BestOrderttttttthtb K x0 x2 x8 x10 v1 (.int .i64 0) H1
theorem m_fieldfarelaw7_BestOrderttttttth_eq (K : AV → AH → Prop) (a : TE) (H : AH) : codeP PP CC (subC (bodyC PP 5) [1, 1, 1, 1, 1, 1, 1, 0]) (m_fieldfarelaw7_BestOrderttttttt_k K) a H = m_fieldfarelaw7_BestOrderttttttth K (a 0) (a 2) (a 8) (a 10) H :=
  have h1 : codeP PP CC (subC (bodyC PP 5) [1, 1, 1, 1, 1, 1, 1, 0]) (m_fieldfarelaw7_BestOrderttttttt_k K) a H = codeP PP CC (subC (bodyC PP 5) [1, 1, 1, 1, 1, 1, 1, 0, 0]) (exP (codeP PP CC (subC (bodyC PP 5) [1, 1, 1, 1, 1, 1, 1, 0, 1]) (m_fieldfarelaw7_BestOrderttttttt_k K)) (m_fieldfarelaw7_BestOrderttttttt_k K)) a H := by kernel_rfl
  have h2 : codeP PP CC (subC (bodyC PP 5) [1, 1, 1, 1, 1, 1, 1, 0, 0]) (exP (codeP PP CC (subC (bodyC PP 5) [1, 1, 1, 1, 1, 1, 1, 0, 1]) (m_fieldfarelaw7_BestOrderttttttt_k K)) (m_fieldfarelaw7_BestOrderttttttt_k K)) a H = codeP PP CC (subC (bodyC PP 5) [1, 1, 1, 1, 1, 1, 1, 0, 0]) (exP (fun (a : TE) (H : AH) => m_fieldfarelaw7_BestOrderttttttthtb K (a 0) (a 2) (a 8) (a 10) (a 49) (a 50) H) (m_fieldfarelaw7_BestOrderttttttt_k K)) a H := congrArg (fun k : KE => codeP PP CC (subC (bodyC PP 5) [1, 1, 1, 1, 1, 1, 1, 0, 0]) (exP k (m_fieldfarelaw7_BestOrderttttttt_k K)) a H) (funext fun a => funext fun H => m_fieldfarelaw7_BestOrdertttttttht_eq K a H)
  have h2b : codeP PP CC (subC (bodyC PP 5) [1, 1, 1, 1, 1, 1, 1, 0, 0]) (exP (fun (a : TE) (H : AH) => m_fieldfarelaw7_BestOrderttttttthtb K (a 0) (a 2) (a 8) (a 10) (a 49) (a 50) H) (m_fieldfarelaw7_BestOrderttttttt_k K)) a H = codeP PP CC (subC (bodyC PP 5) [1, 1, 1, 1, 1, 1, 1, 0, 0]) (m_fieldfarelaw7_BestOrderttttttth_k K) a H := by kernel_rfl
  have h3 : codeP PP CC (subC (bodyC PP 5) [1, 1, 1, 1, 1, 1, 1, 0, 0]) (m_fieldfarelaw7_BestOrderttttttth_k K) a H = m_fieldfarelaw7_BestOrderttttttth K (a 0) (a 2) (a 8) (a 10) H := by kernel_rfl
  ((h1.trans h2).trans h2b).trans h3
theorem m_fieldfarelaw7_BestOrderttttttt_eq (K : AV → AH → Prop) (a : TE) (H : AH) : codeP PP CC (subC (bodyC PP 5) [1, 1, 1, 1, 1, 1, 1]) (m_fieldfarelaw7_BestOrder_K K) a H = m_fieldfarelaw7_BestOrderttttttth K (a 0) (a 2) (a 8) (a 10) H :=
  have h1 : codeP PP CC (subC (bodyC PP 5) [1, 1, 1, 1, 1, 1, 1]) (m_fieldfarelaw7_BestOrder_K K) a H = codeP PP CC (subC (bodyC PP 5) [1, 1, 1, 1, 1, 1, 1, 0]) (exP (codeP PP CC (subC (bodyC PP 5) [1, 1, 1, 1, 1, 1, 1, 1]) (m_fieldfarelaw7_BestOrder_K K)) (m_fieldfarelaw7_BestOrder_K K)) a H := by kernel_rfl
  have h2 : codeP PP CC (subC (bodyC PP 5) [1, 1, 1, 1, 1, 1, 1, 0]) (exP (codeP PP CC (subC (bodyC PP 5) [1, 1, 1, 1, 1, 1, 1, 1]) (m_fieldfarelaw7_BestOrder_K K)) (m_fieldfarelaw7_BestOrder_K K)) a H = codeP PP CC (subC (bodyC PP 5) [1, 1, 1, 1, 1, 1, 1, 0]) (exP (fun (a : TE) (H : AH) => m_fieldfarelaw7_BestOrdertttttttt K (a 0) (a 8) (a 10) H) (m_fieldfarelaw7_BestOrder_K K)) a H := congrArg (fun k : KE => codeP PP CC (subC (bodyC PP 5) [1, 1, 1, 1, 1, 1, 1, 0]) (exP k (m_fieldfarelaw7_BestOrder_K K)) a H) (funext fun a => funext fun H => m_fieldfarelaw7_BestOrdertttttttt_eq K a H)
  have h2b : codeP PP CC (subC (bodyC PP 5) [1, 1, 1, 1, 1, 1, 1, 0]) (exP (fun (a : TE) (H : AH) => m_fieldfarelaw7_BestOrdertttttttt K (a 0) (a 8) (a 10) H) (m_fieldfarelaw7_BestOrder_K K)) a H = codeP PP CC (subC (bodyC PP 5) [1, 1, 1, 1, 1, 1, 1, 0]) (m_fieldfarelaw7_BestOrderttttttt_k K) a H := by kernel_rfl
  ((h1.trans h2).trans h2b).trans (m_fieldfarelaw7_BestOrderttttttth_eq K a H)
abbrev m_fieldfarelaw7_BestOrdertttttt_k (K : AV → AH → Prop) : KP := exP (fun (a : TE) (H : AH) => m_fieldfarelaw7_BestOrderttttttth K (a 0) (a 2) (a 8) (a 10) H) (m_fieldfarelaw7_BestOrder_K K)
def m_fieldfarelaw7_BestOrdertttttt (K : AV → AH → Prop) (x0 x2 x8 : AV) (H : AH) : Prop :=
  outP CC H (some (.enter 25 [x0, x8])) fun v1 H1 =>
  m_fieldfarelaw7_BestOrderttttttth K x0 x2 x8 v1 H1
theorem m_fieldfarelaw7_BestOrdertttttt_eq (K : AV → AH → Prop) (a : TE) (H : AH) : codeP PP CC (subC (bodyC PP 5) [1, 1, 1, 1, 1, 1]) (m_fieldfarelaw7_BestOrder_K K) a H = m_fieldfarelaw7_BestOrdertttttt K (a 0) (a 2) (a 8) H :=
  have h1 : codeP PP CC (subC (bodyC PP 5) [1, 1, 1, 1, 1, 1]) (m_fieldfarelaw7_BestOrder_K K) a H = codeP PP CC (subC (bodyC PP 5) [1, 1, 1, 1, 1, 1, 0]) (exP (codeP PP CC (subC (bodyC PP 5) [1, 1, 1, 1, 1, 1, 1]) (m_fieldfarelaw7_BestOrder_K K)) (m_fieldfarelaw7_BestOrder_K K)) a H := by kernel_rfl
  have h2 : codeP PP CC (subC (bodyC PP 5) [1, 1, 1, 1, 1, 1, 0]) (exP (codeP PP CC (subC (bodyC PP 5) [1, 1, 1, 1, 1, 1, 1]) (m_fieldfarelaw7_BestOrder_K K)) (m_fieldfarelaw7_BestOrder_K K)) a H = codeP PP CC (subC (bodyC PP 5) [1, 1, 1, 1, 1, 1, 0]) (exP (fun (a : TE) (H : AH) => m_fieldfarelaw7_BestOrderttttttth K (a 0) (a 2) (a 8) (a 10) H) (m_fieldfarelaw7_BestOrder_K K)) a H := congrArg (fun k : KE => codeP PP CC (subC (bodyC PP 5) [1, 1, 1, 1, 1, 1, 0]) (exP k (m_fieldfarelaw7_BestOrder_K K)) a H) (funext fun a => funext fun H => m_fieldfarelaw7_BestOrderttttttt_eq K a H)
  have h2b : codeP PP CC (subC (bodyC PP 5) [1, 1, 1, 1, 1, 1, 0]) (exP (fun (a : TE) (H : AH) => m_fieldfarelaw7_BestOrderttttttth K (a 0) (a 2) (a 8) (a 10) H) (m_fieldfarelaw7_BestOrder_K K)) a H = codeP PP CC (subC (bodyC PP 5) [1, 1, 1, 1, 1, 1, 0]) (m_fieldfarelaw7_BestOrdertttttt_k K) a H := by kernel_rfl
  have h3 : codeP PP CC (subC (bodyC PP 5) [1, 1, 1, 1, 1, 1, 0]) (m_fieldfarelaw7_BestOrdertttttt_k K) a H = m_fieldfarelaw7_BestOrdertttttt K (a 0) (a 2) (a 8) H := by kernel_rfl
  ((h1.trans h2).trans h2b).trans h3
abbrev m_fieldfarelaw7_BestOrderttttt_k (K : AV → AH → Prop) : KP := exP (fun (a : TE) (H : AH) => m_fieldfarelaw7_BestOrdertttttt K (a 0) (a 2) (a 8) H) (m_fieldfarelaw7_BestOrder_K K)
abbrev m_fieldfarelaw7_BestOrdertttttht_k (K : AV → AH → Prop) : KP := blockP 0 (m_fieldfarelaw7_BestOrderttttt_k K)
abbrev m_fieldfarelaw7_BestOrderttttthtb_k (K : AV → AH → Prop) (r0 : (AV × AV × AV × AV × AV) → AH → Prop) : KP := exP (fun (a : TE) (H : AH) => r0 (a 0, a 1, a 2, a 8, a 9) H) (m_fieldfarelaw7_BestOrdertttttht_k K)
def m_fieldfarelaw7_BestOrderttttthtbl (K : AV → AH → Prop) (r0 : (AV × AV × AV × AV × AV) → AH → Prop) (x0 x1 x2 x8 x9 : AV) (H : AH) : Prop :=
  outP CC H (w_len PP 42 H x1) fun v1 H1 =>
  outP CC H1 (w_int .lss H1 x9 v1) fun v2 H2 =>
  guardP (boolIs true v2) H2 (outP CC H2 (some (.val x9 H2))) fun v3 H3 =>
  guardP (boolIs true v2) H3 (outP CC H3 (w_int .lss H3 v3 (.int .i64 30))) fun v4 H4 =>
  outP CC H4 (w_pick H4 v2 v4 (.bool false)) fun v5 H5 =>
  condP v5
  (outP CC H5 (w_indexAddr (.sl 1) H5 x1 x9) fun v6 H6 =>
  outP CC H6 (w_load none H6 v6) fun v7 H7 =>
  outP CC H7 (w_int .rem H7 v7 (.int .i64 10)) fun v8 H8 =>
  outP CC H8 (w_build PP 37 H8 [(0, x9), (1, v8)]) fun v9 H9 =>
  outP CC H9 (w_buildSlice PP 37 1 H9 [(0, v9)] none) fun v10 H10 =>
  outP CC H10 (w_append 37 2 16 H10 x8 v10 none) fun v11 H11 =>
  outP CC H11 (w_int .add H11 x9 (.int .i64 1)) fun v12 H12 =>
  r0 (x0, x1, x2, v11, v12) H12)
  (m_fieldfarelaw7_BestOrdertttttt K x0 x2 x8 H5)
theorem m_fieldfarelaw7_BestOrderttttthtbl_eq (K : AV → AH → Prop) (r0 : (AV × AV × AV × AV × AV) → AH → Prop) (a : TE) (H : AH) : codeP PP CC (subC (bodyC PP 5) [1, 1, 1, 1, 1, 0, 1, 0, 0]) (m_fieldfarelaw7_BestOrderttttthtb_k K r0) a H = m_fieldfarelaw7_BestOrderttttthtbl K r0 (a 0) (a 1) (a 2) (a 8) (a 9) H :=
  by kernel_rfl
def m_fieldfarelaw7_BestOrderttttthtb (K : AV → AH → Prop) (x0 x1 x2 x8 x9 : AV) (H : AH) : Prop :=
  loopP (fun (r0 : (AV × AV × AV × AV × AV) → AH → Prop) (s : (AV × AV × AV × AV × AV)) (H : AH) => m_fieldfarelaw7_BestOrderttttthtbl K r0 s.1 s.2.1 s.2.2.1 s.2.2.2.1 s.2.2.2.2 H) (x0, x1, x2, x8, x9) H
theorem m_fieldfarelaw7_BestOrderttttthtb_eq (K : AV → AH → Prop) (a : TE) (H : AH) : codeP PP CC (subC (bodyC PP 5) [1, 1, 1, 1, 1, 0, 1, 0]) (m_fieldfarelaw7_BestOrdertttttht_k K) a H = m_fieldfarelaw7_BestOrderttttthtb K (a 0) (a 1) (a 2) (a 8) (a 9) H :=
  have h1 : codeP PP CC (subC (bodyC PP 5) [1, 1, 1, 1, 1, 0, 1, 0]) (m_fieldfarelaw7_BestOrdertttttht_k K) a H = loopP (fun (rec : KE) => codeP PP CC (subC (bodyC PP 5) [1, 1, 1, 1, 1, 0, 1, 0, 0]) (exP rec (m_fieldfarelaw7_BestOrdertttttht_k K))) a H := by kernel_rfl
  have h2 := loopP_iso (F := fun (rec : KE) => codeP PP CC (subC (bodyC PP 5) [1, 1, 1, 1, 1, 0, 1, 0, 0]) (exP rec (m_fieldfarelaw7_BestOrdertttttht_k K))) (S := (AV × AV × AV × AV × AV)) (fun a => (a 0, a 1, a 2, a 8, a 9)) (fun (r0 : (AV × AV × AV × AV × AV) → AH → Prop) (s : (AV × AV × AV × AV × AV)) (H : AH) => m_fieldfarelaw7_BestOrderttttthtbl K r0 s.1 s.2.1 s.2.2.1 s.2.2.2.1 s.2.2.2.2 H) (fun (r0 : (AV × AV × AV × AV × AV) → AH → Prop) (a : TE) (H : AH) => (show codeP PP CC (subC (bodyC PP 5) [1, 1, 1, 1, 1, 0, 1, 0, 0]) (exP (fun (a : TE) (H : AH) => r0 (a 0, a 1, a 2, a 8, a 9) H) (m_fieldfarelaw7_BestOrdertttttht_k K)) a H = codeP PP CC (subC (bodyC PP 5) [1, 1, 1, 1, 1, 0, 1, 0, 0]) (m_fieldfarelaw7_BestOrderttttthtb_k K r0) a H from by kernel_rfl).trans (m_fieldfarelaw7_BestOrderttttthtbl_eq K r0 a H)) a H
  h1.trans h2
theorem m_fieldfarelaw7_BestOrdertttttht_eq (K : AV → AH → Prop) (a : TE) (H : AH) : codeP PP CC (subC (bodyC PP 5) [1, 1, 1, 1, 1, 0, 1]) (m_fieldfarelaw7_BestOrderttttt_k K) a H = m_fieldfarelaw7_BestOrderttttthtb K (a 0) (a 1) (a 2) (a 8) (a 9) H :=
  have h1 : codeP PP CC (subC (bodyC PP 5) [1, 1, 1, 1, 1, 0, 1]) (m_fieldfarelaw7_BestOrderttttt_k K) a H = codeP PP CC (subC (bodyC PP 5) [1, 1, 1, 1, 1, 0, 1, 0]) (m_fieldfarelaw7_BestOrdertttttht_k K) a H := by kernel_rfl
  h1.trans (m_fieldfarelaw7_BestOrderttttthtb_eq K a H)
abbrev m_fieldfarelaw7_BestOrderttttth_k (K : AV → AH → Prop) : KP := exP (fun (a : TE) (H : AH) => m_fieldfarelaw7_BestOrderttttthtb K (a 0) (a 1) (a 2) (a 8) (a 9) H) (m_fieldfarelaw7_BestOrderttttt_k K)
def m_fieldfarelaw7_BestOrderttttth (K : AV → AH → Prop) (x0 x1 x2 x8 : AV) (H : AH) : Prop :=
  m_fieldfarelaw7_BestOrderttttthtb K x0 x1 x2 x8 (.int .i64 0) H
theorem m_fieldfarelaw7_BestOrderttttth_eq (K : AV → AH → Prop) (a : TE) (H : AH) : codeP PP CC (subC (bodyC PP 5) [1, 1, 1, 1, 1, 0]) (m_fieldfarelaw7_BestOrderttttt_k K) a H = m_fieldfarelaw7_BestOrderttttth K (a 0) (a 1) (a 2) (a 8) H :=
  have h1 : codeP PP CC (subC (bodyC PP 5) [1, 1, 1, 1, 1, 0]) (m_fieldfarelaw7_BestOrderttttt_k K) a H = codeP PP CC (subC (bodyC PP 5) [1, 1, 1, 1, 1, 0, 0]) (exP (codeP PP CC (subC (bodyC PP 5) [1, 1, 1, 1, 1, 0, 1]) (m_fieldfarelaw7_BestOrderttttt_k K)) (m_fieldfarelaw7_BestOrderttttt_k K)) a H := by kernel_rfl
  have h2 : codeP PP CC (subC (bodyC PP 5) [1, 1, 1, 1, 1, 0, 0]) (exP (codeP PP CC (subC (bodyC PP 5) [1, 1, 1, 1, 1, 0, 1]) (m_fieldfarelaw7_BestOrderttttt_k K)) (m_fieldfarelaw7_BestOrderttttt_k K)) a H = codeP PP CC (subC (bodyC PP 5) [1, 1, 1, 1, 1, 0, 0]) (exP (fun (a : TE) (H : AH) => m_fieldfarelaw7_BestOrderttttthtb K (a 0) (a 1) (a 2) (a 8) (a 9) H) (m_fieldfarelaw7_BestOrderttttt_k K)) a H := congrArg (fun k : KE => codeP PP CC (subC (bodyC PP 5) [1, 1, 1, 1, 1, 0, 0]) (exP k (m_fieldfarelaw7_BestOrderttttt_k K)) a H) (funext fun a => funext fun H => m_fieldfarelaw7_BestOrdertttttht_eq K a H)
  have h2b : codeP PP CC (subC (bodyC PP 5) [1, 1, 1, 1, 1, 0, 0]) (exP (fun (a : TE) (H : AH) => m_fieldfarelaw7_BestOrderttttthtb K (a 0) (a 1) (a 2) (a 8) (a 9) H) (m_fieldfarelaw7_BestOrderttttt_k K)) a H = codeP PP CC (subC (bodyC PP 5) [1, 1, 1, 1, 1, 0, 0]) (m_fieldfarelaw7_BestOrderttttth_k K) a H := by kernel_rfl
  have h3 : codeP PP CC (subC (bodyC PP 5) [1, 1, 1, 1, 1, 0, 0]) (m_fieldfarelaw7_BestOrderttttth_k K) a H = m_fieldfarelaw7_BestOrderttttth K (a 0) (a 1) (a 2) (a 8) H := by kernel_rfl
  ((h1.trans h2).trans h2b).trans h3
theorem m_fieldfarelaw7_BestOrderttttt_eq (K : AV → AH → Prop) (a : TE) (H : AH) : codeP PP CC (subC (bodyC PP 5) [1, 1, 1, 1, 1]) (m_fieldfarelaw7_BestOrder_K K) a H = m_fieldfarelaw7_BestOrderttttth K (a 0) (a 1) (a 2) (a 8) H :=
  have h1 : codeP PP CC (subC (bodyC PP 5) [1, 1, 1, 1, 1]) (m_fieldfarelaw7_BestOrder_K K) a H = codeP PP CC (subC (bodyC PP 5) [1, 1, 1, 1, 1, 0]) (exP (codeP PP CC (subC (bodyC PP 5) [1, 1, 1, 1, 1, 1]) (m_fieldfarelaw7_BestOrder_K K)) (m_fieldfarelaw7_BestOrder_K K)) a H := by kernel_rfl
  have h2 : codeP PP CC (subC (bodyC PP 5) [1, 1, 1, 1, 1, 0]) (exP (codeP PP CC (subC (bodyC PP 5) [1, 1, 1, 1, 1, 1]) (m_fieldfarelaw7_BestOrder_K K)) (m_fieldfarelaw7_BestOrder_K K)) a H = codeP PP CC (subC (bodyC PP 5) [1, 1, 1, 1, 1, 0]) (exP (fun (a : TE) (H : AH) => m_fieldfarelaw7_BestOrdertttttt K (a 0) (a 2) (a 8) H) (m_fieldfarelaw7_BestOrder_K K)) a H := congrArg (fun k : KE => codeP PP CC (subC (bodyC PP 5) [1, 1, 1, 1, 1, 0]) (exP k (m_fieldfarelaw7_BestOrder_K K)) a H) (funext fun a => funext fun H => m_fieldfarelaw7_BestOrdertttttt_eq K a H)
  have h2b : codeP PP CC (subC (bodyC PP 5) [1, 1, 1, 1, 1, 0]) (exP (fun (a : TE) (H : AH) => m_fieldfarelaw7_BestOrdertttttt K (a 0) (a 2) (a 8) H) (m_fieldfarelaw7_BestOrder_K K)) a H = codeP PP CC (subC (bodyC PP 5) [1, 1, 1, 1, 1, 0]) (m_fieldfarelaw7_BestOrderttttt_k K) a H := by kernel_rfl
  ((h1.trans h2).trans h2b).trans (m_fieldfarelaw7_BestOrderttttth_eq K a H)
abbrev m_fieldfarelaw7_BestOrdertttt_k (K : AV → AH → Prop) : KP := exP (fun (a : TE) (H : AH) => m_fieldfarelaw7_BestOrderttttth K (a 0) (a 1) (a 2) (a 8) H) (m_fieldfarelaw7_BestOrder_K K)
def m_fieldfarelaw7_BestOrdertttt (K : AV → AH → Prop) (x0 x1 x2 : AV) (H : AH) : Prop :=
  m_fieldfarelaw7_BestOrderttttth K x0 x1 x2 (.slice none 0 0 true) H
theorem m_fieldfarelaw7_BestOrdertttt_eq (K : AV → AH → Prop) (a : TE) (H : AH) : codeP PP CC (subC (bodyC PP 5) [1, 1, 1, 1]) (m_fieldfarelaw7_BestOrder_K K) a H = m_fieldfarelaw7_BestOrdertttt K (a 0) (a 1) (a 2) H :=
  have h1 : codeP PP CC (subC (bodyC PP 5) [1, 1, 1, 1]) (m_fieldfarelaw7_BestOrder_K K) a H = codeP PP CC (subC (bodyC PP 5) [1, 1, 1, 1, 0]) (exP (codeP PP CC (subC (bodyC PP 5) [1, 1, 1, 1, 1]) (m_fieldfarelaw7_BestOrder_K K)) (m_fieldfarelaw7_BestOrder_K K)) a H := by kernel_rfl
  have h2 : codeP PP CC (subC (bodyC PP 5) [1, 1, 1, 1, 0]) (exP (codeP PP CC (subC (bodyC PP 5) [1, 1, 1, 1, 1]) (m_fieldfarelaw7_BestOrder_K K)) (m_fieldfarelaw7_BestOrder_K K)) a H = codeP PP CC (subC (bodyC PP 5) [1, 1, 1, 1, 0]) (exP (fun (a : TE) (H : AH) => m_fieldfarelaw7_BestOrderttttth K (a 0) (a 1) (a 2) (a 8) H) (m_fieldfarelaw7_BestOrder_K K)) a H := congrArg (fun k : KE => codeP PP CC (subC (bodyC PP 5) [1, 1, 1, 1, 0]) (exP k (m_fieldfarelaw7_BestOrder_K K)) a H) (funext fun a => funext fun H => m_fieldfarelaw7_BestOrderttttt_eq K a H)
  have h2b : codeP PP CC (subC (bodyC PP 5) [1, 1, 1, 1, 0]) (exP (fun (a : TE) (H : AH) => m_fieldfarelaw7_BestOrderttttth K (a 0) (a 1) (a 2) (a 8) H) (m_fieldfarelaw7_BestOrder_K K)) a H = codeP PP CC (subC (bodyC PP 5) [1, 1, 1, 1, 0]) (m_fieldfarelaw7_BestOrdertttt_k K) a H := by kernel_rfl
  have h3 : codeP PP CC (subC (bodyC PP 5) [1, 1, 1, 1, 0]) (m_fieldfarelaw7_BestOrdertttt_k K) a H = m_fieldfarelaw7_BestOrdertttt K (a 0) (a 1) (a 2) H := by kernel_rfl
  ((h1.trans h2).trans h2b).trans h3
abbrev m_fieldfarelaw7_BestOrderttt_k (K : AV → AH → Prop) : KP := exP (fun (a : TE) (H : AH) => m_fieldfarelaw7_BestOrdertttt K (a 0) (a 1) (a 2) H) (m_fieldfarelaw7_BestOrder_K K)
def m_fieldfarelaw7_BestOrderttt (K : AV → AH → Prop) (x0 x1 x2 : AV) (H : AH) : Prop :=
  outP CC H (w_int .rem H x0 (.int .i64 12)) fun v1 H1 =>
  outP CC H1 (w_int .add H1 v1 (.int .i64 12)) fun v2 H2 =>
  outP CC H2 (w_int .rem H2 v2 (.int .i64 12)) fun v3 H3 =>
  m_fieldfarelaw7_BestOrdertttt K v3 x1 x2 H3
theorem m_fieldfarelaw7_BestOrderttt_eq (K : AV → AH → Prop) (a : TE) (H : AH) : codeP PP CC (subC (bodyC PP 5) [1, 1, 1]) (m_fieldfarelaw7_BestOrder_K K) a H = m_fieldfarelaw7_BestOrderttt K (a 0) (a 1) (a 2) H :=
  have h1 : codeP PP CC (subC (bodyC PP 5) [1, 1, 1]) (m_fieldfarelaw7_BestOrder_K K) a H = codeP PP CC (subC (bodyC PP 5) [1, 1, 1, 0]) (exP (codeP PP CC (subC (bodyC PP 5) [1, 1, 1, 1]) (m_fieldfarelaw7_BestOrder_K K)) (m_fieldfarelaw7_BestOrder_K K)) a H := by kernel_rfl
  have h2 : codeP PP CC (subC (bodyC PP 5) [1, 1, 1, 0]) (exP (codeP PP CC (subC (bodyC PP 5) [1, 1, 1, 1]) (m_fieldfarelaw7_BestOrder_K K)) (m_fieldfarelaw7_BestOrder_K K)) a H = codeP PP CC (subC (bodyC PP 5) [1, 1, 1, 0]) (exP (fun (a : TE) (H : AH) => m_fieldfarelaw7_BestOrdertttt K (a 0) (a 1) (a 2) H) (m_fieldfarelaw7_BestOrder_K K)) a H := congrArg (fun k : KE => codeP PP CC (subC (bodyC PP 5) [1, 1, 1, 0]) (exP k (m_fieldfarelaw7_BestOrder_K K)) a H) (funext fun a => funext fun H => m_fieldfarelaw7_BestOrdertttt_eq K a H)
  have h2b : codeP PP CC (subC (bodyC PP 5) [1, 1, 1, 0]) (exP (fun (a : TE) (H : AH) => m_fieldfarelaw7_BestOrdertttt K (a 0) (a 1) (a 2) H) (m_fieldfarelaw7_BestOrder_K K)) a H = codeP PP CC (subC (bodyC PP 5) [1, 1, 1, 0]) (m_fieldfarelaw7_BestOrderttt_k K) a H := by kernel_rfl
  have h3 : codeP PP CC (subC (bodyC PP 5) [1, 1, 1, 0]) (m_fieldfarelaw7_BestOrderttt_k K) a H = m_fieldfarelaw7_BestOrderttt K (a 0) (a 1) (a 2) H := by kernel_rfl
  ((h1.trans h2).trans h2b).trans h3
abbrev m_fieldfarelaw7_BestOrdertt_k (K : AV → AH → Prop) : KP := exP (fun (a : TE) (H : AH) => m_fieldfarelaw7_BestOrderttt K (a 0) (a 1) (a 2) H) (m_fieldfarelaw7_BestOrder_K K)
def m_fieldfarelaw7_BestOrdertt (K : AV → AH → Prop) (x0 x1 x2 x7 : AV) (H : AH) : Prop :=
  outP CC H (w_un .not H x7) fun v1 H1 =>
  condP v1
  (K (.bool false) H1)
  (m_fieldfarelaw7_BestOrderttt K x0 x1 x2 H1)
theorem m_fieldfarelaw7_BestOrdertt_eq (K : AV → AH → Prop) (a : TE) (H : AH) : codeP PP CC (subC (bodyC PP 5) [1, 1]) (m_fieldfarelaw7_BestOrder_K K) a H = m_fieldfarelaw7_BestOrdertt K (a 0) (a 1) (a 2) (a 7) H :=
  have h1 : codeP PP CC (subC (bodyC PP 5) [1, 1]) (m_fieldfarelaw7_BestOrder_K K) a H = codeP PP CC (subC (bodyC PP 5) [1, 1, 0]) (exP (codeP PP CC (subC (bodyC PP 5) [1, 1, 1]) (m_fieldfarelaw7_BestOrder_K K)) (m_fieldfarelaw7_BestOrder_K K)) a H := by kernel_rfl
  have h2 : codeP PP CC (subC (bodyC PP 5) [1, 1, 0]) (exP (codeP PP CC (subC (bodyC PP 5) [1, 1, 1]) (m_fieldfarelaw7_BestOrder_K K)) (m_fieldfarelaw7_BestOrder_K K)) a H = codeP PP CC (subC (bodyC PP 5) [1, 1, 0]) (exP (fun (a : TE) (H : AH) => m_fieldfarelaw7_BestOrderttt K (a 0) (a 1) (a 2) H) (m_fieldfarelaw7_BestOrder_K K)) a H := congrArg (fun k : KE => codeP PP CC (subC (bodyC PP 5) [1, 1, 0]) (exP k (m_fieldfarelaw7_BestOrder_K K)) a H) (funext fun a => funext fun H => m_fieldfarelaw7_BestOrderttt_eq K a H)
  have h2b : codeP PP CC (subC (bodyC PP 5) [1, 1, 0]) (exP (fun (a : TE) (H : AH) => m_fieldfarelaw7_BestOrderttt K (a 0) (a 1) (a 2) H) (m_fieldfarelaw7_BestOrder_K K)) a H = codeP PP CC (subC (bodyC PP 5) [1, 1, 0]) (m_fieldfarelaw7_BestOrdertt_k K) a H := by kernel_rfl
  have h3 : codeP PP CC (subC (bodyC PP 5) [1, 1, 0]) (m_fieldfarelaw7_BestOrdertt_k K) a H = m_fieldfarelaw7_BestOrdertt K (a 0) (a 1) (a 2) (a 7) H := by kernel_rfl
  ((h1.trans h2).trans h2b).trans h3
abbrev m_fieldfarelaw7_BestOrdert_k (K : AV → AH → Prop) : KP := exP (fun (a : TE) (H : AH) => m_fieldfarelaw7_BestOrdertt K (a 0) (a 1) (a 2) (a 7) H) (m_fieldfarelaw7_BestOrder_K K)
def m_fieldfarelaw7_BestOrdert (K : AV → AH → Prop) (x0 x1 x2 : AV) (H : AH) : Prop :=
  outP CC H (some (.enter 14 [])) fun v1 H1 =>
  m_fieldfarelaw7_BestOrdertt K x0 x1 x2 v1 H1
theorem m_fieldfarelaw7_BestOrdert_eq (K : AV → AH → Prop) (a : TE) (H : AH) : codeP PP CC (subC (bodyC PP 5) [1]) (m_fieldfarelaw7_BestOrder_K K) a H = m_fieldfarelaw7_BestOrdert K (a 0) (a 1) (a 2) H :=
  have h1 : codeP PP CC (subC (bodyC PP 5) [1]) (m_fieldfarelaw7_BestOrder_K K) a H = codeP PP CC (subC (bodyC PP 5) [1, 0]) (exP (codeP PP CC (subC (bodyC PP 5) [1, 1]) (m_fieldfarelaw7_BestOrder_K K)) (m_fieldfarelaw7_BestOrder_K K)) a H := by kernel_rfl
  have h2 : codeP PP CC (subC (bodyC PP 5) [1, 0]) (exP (codeP PP CC (subC (bodyC PP 5) [1, 1]) (m_fieldfarelaw7_BestOrder_K K)) (m_fieldfarelaw7_BestOrder_K K)) a H = codeP PP CC (subC (bodyC PP 5) [1, 0]) (exP (fun (a : TE) (H : AH) => m_fieldfarelaw7_BestOrdertt K (a 0) (a 1) (a 2) (a 7) H) (m_fieldfarelaw7_BestOrder_K K)) a H := congrArg (fun k : KE => codeP PP CC (subC (bodyC PP 5) [1, 0]) (exP k (m_fieldfarelaw7_BestOrder_K K)) a H) (funext fun a => funext fun H => m_fieldfarelaw7_BestOrdertt_eq K a H)
  have h2b : codeP PP CC (subC (bodyC PP 5) [1, 0]) (exP (fun (a : TE) (H : AH) => m_fieldfarelaw7_BestOrdertt K (a 0) (a 1) (a 2) (a 7) H) (m_fieldfarelaw7_BestOrder_K K)) a H = codeP PP CC (subC (bodyC PP 5) [1, 0]) (m_fieldfarelaw7_BestOrdert_k K) a H := by kernel_rfl
  have h3 : codeP PP CC (subC (bodyC PP 5) [1, 0]) (m_fieldfarelaw7_BestOrdert_k K) a H = m_fieldfarelaw7_BestOrdert K (a 0) (a 1) (a 2) H := by kernel_rfl
  ((h1.trans h2).trans h2b).trans h3
abbrev m_fieldfarelaw7_BestOrder_k (K : AV → AH → Prop) : KP := exP (fun (a : TE) (H : AH) => m_fieldfarelaw7_BestOrdert K (a 0) (a 1) (a 2) H) (m_fieldfarelaw7_BestOrder_K K)
def m_fieldfarelaw7_BestOrder (K : AV → AH → Prop) (x0 x1 x2 : AV) (H : AH) : Prop :=
  m_fieldfarelaw7_BestOrdert K x0 x1 x2 H
theorem m_fieldfarelaw7_BestOrder_eq (K : AV → AH → Prop) (a : TE) (H : AH) : codeP PP CC (subC (bodyC PP 5) []) (m_fieldfarelaw7_BestOrder_K K) a H = m_fieldfarelaw7_BestOrder K (a 0) (a 1) (a 2) H :=
  have h1 : codeP PP CC (subC (bodyC PP 5) []) (m_fieldfarelaw7_BestOrder_K K) a H = codeP PP CC (subC (bodyC PP 5) [0]) (exP (codeP PP CC (subC (bodyC PP 5) [1]) (m_fieldfarelaw7_BestOrder_K K)) (m_fieldfarelaw7_BestOrder_K K)) a H := by kernel_rfl
  have h2 : codeP PP CC (subC (bodyC PP 5) [0]) (exP (codeP PP CC (subC (bodyC PP 5) [1]) (m_fieldfarelaw7_BestOrder_K K)) (m_fieldfarelaw7_BestOrder_K K)) a H = codeP PP CC (subC (bodyC PP 5) [0]) (exP (fun (a : TE) (H : AH) => m_fieldfarelaw7_BestOrdert K (a 0) (a 1) (a 2) H) (m_fieldfarelaw7_BestOrder_K K)) a H := congrArg (fun k : KE => codeP PP CC (subC (bodyC PP 5) [0]) (exP k (m_fieldfarelaw7_BestOrder_K K)) a H) (funext fun a => funext fun H => m_fieldfarelaw7_BestOrdert_eq K a H)
  have h2b : codeP PP CC (subC (bodyC PP 5) [0]) (exP (fun (a : TE) (H : AH) => m_fieldfarelaw7_BestOrdert K (a 0) (a 1) (a 2) H) (m_fieldfarelaw7_BestOrder_K K)) a H = codeP PP CC (subC (bodyC PP 5) [0]) (m_fieldfarelaw7_BestOrder_k K) a H := by kernel_rfl
  have h3 : codeP PP CC (subC (bodyC PP 5) [0]) (m_fieldfarelaw7_BestOrder_k K) a H = m_fieldfarelaw7_BestOrder K (a 0) (a 1) (a 2) H := by kernel_rfl
  ((h1.trans h2).trans h2b).trans h3
theorem m_fieldfarelaw7_BestOrder_ok (x0 x1 x2 : AV) (H : AH) (K : AV → AH → Prop) (h : m_fieldfarelaw7_BestOrder K x0 x1 x2 H) : CC.call 5 [x0, x1, x2] H K :=
  have h1 : funP PP CC 5 [x0, x1, x2] H K = codeP PP CC (subC (bodyC PP 5) []) (m_fieldfarelaw7_BestOrder_K K) (argE [x0, x1, x2]) H := by kernel_rfl
  have h2 : m_fieldfarelaw7_BestOrder K (argE [x0, x1, x2] 0) (argE [x0, x1, x2] 1) (argE [x0, x1, x2] 2) H = m_fieldfarelaw7_BestOrder K x0 x1 x2 H := by kernel_rfl
  funP_ok (P := PP) (by kernel_rfl) (by kernel_rfl) ((h1.trans ((m_fieldfarelaw7_BestOrder_eq K (argE [x0, x1, x2]) H).trans h2)).mpr h)

end
end Go.Ab
