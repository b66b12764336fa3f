/- What functions do, said as what the evaluator does. Printed by a program. -/
import Derived.Test.YtapkhdlohcbcmaaGreatDoorBeg
import Derived.Test.YtapkhdlohcbcmaaGreatDoorEv3
namespace Go.Ab
noncomputable section
open Go.Proofs
set_option maxRecDepth 100000



/-! 4: fieldfare/fieldfarelaw7.VectRow -/
abbrev m_fieldfarelaw7_VectRow_K (K : AV → AH → Prop) : KP := finP PP (resC PP 4) K
abbrev m_fieldfarelaw7_VectRowttttttt_k (K : AV → AH → Prop) : KP := exP (codeP PP CC (subC (bodyC PP 4) [1, 1, 1, 1, 1, 1, 1, 1]) (m_fieldfarelaw7_VectRow_K K)) (m_fieldfarelaw7_VectRow_K K)
abbrev m_fieldfarelaw7_VectRowtttttttht_k (K : AV → AH → Prop) : KP := blockP 2 (m_fieldfarelaw7_VectRowttttttt_k K)
abbrev m_fieldfarelaw7_VectRowttttttthtb_k (K : AV → AH → Prop) (r0 : (AV × AV × AV × AV × AV) → AH → Prop) : KP := exP (fun (a : TE) (H : AH) => r0 (a 0, a 1, a 8, a 42, a 43) H) (m_fieldfarelaw7_VectRowtttttttht_k K)
def m_fieldfarelaw7_VectRowttttttthtbl (K : AV → AH → Prop) (r0 : (AV × AV × AV × AV × AV) → AH → Prop) (x0 x1 x8 x42 x43 : AV) (H : AH) : Prop :=
  outP CC H (w_int .lss H x43 x42) fun v1 H1 =>
  condP v1
  (outP CC H1 (w_indexAddr (.sl 1) H1 x0 x43) fun v2 H2 =>
  outP CC H2 (w_load none H2 v2) fun v3 H3 =>
  outP CC H3 (w_indexAddr (.sl 1) H3 x0 x43) fun v4 H4 =>
  outP CC H4 (w_load none H4 v4) fun v5 H5 =>
  outP CC H5 (w_len PP 25 H5 v5) fun v6 H6 =>
  outP CC H6 (w_min2 H6 v6 (.int .i64 8)) fun v7 H7 =>
  outP CC H7 (w_slice (.sl 1) true false H7 v3 none (some v7) none) fun v8 H8 =>
  outP CC H8 (some (.enter 18 [x8])) fun v9 H9 =>
  ckP (reC true (w_load none H9 v2) v3) <|
  ckP (reC true (w_load none H9 v4) v5) <|
  ckP (reC true (w_len PP 25 H9 v5) v6) <|
  outP CC H9 (some (.enter 17 [v9, v8])) fun v10 H10 =>
  outP CC H10 (w_un .not H10 v10) fun v11 H11 =>
  guardP (boolIs false v11) H11 (outP CC H11 (some (.val x8 H11))) fun v12 H12 =>
  guardP (boolIs false v11) H12 (outP CC H12 (some (.val x1 H12))) fun v13 H13 =>
  guardP (boolIs false v11) H13 (outP CC H13 (some (.enter 19 [v12]))) fun v14 H14 =>
  guardP (boolIs false v11) H14 (outP CC H14 (w_int .neq H14 v14 v13)) fun v15 H15 =>
  outP CC H15 (w_pick H15 v11 (.bool true) v15) fun v16 H16 =>
  condP v16
  (K (.bool false) H16)
  (outP CC H16 (w_int .add H16 x43 (.int .i64 1)) fun v17 H17 =>
  r0 (x0, x1, x8, x42, v17) H17))
  (outP CC H1 (some (.enter 20 [x8])) fun v18 H18 =>
  outP CC H18 (w_int .eql H18 v18 (.int .i64 0)) fun v19 H19 =>
  K v19 H19)
theorem m_fieldfarelaw7_VectRowttttttthtbl_eq (K : AV → AH → Prop) (r0 : (AV × AV × AV × AV × AV) → AH → Prop) (a : TE) (H : AH) : codeP PP CC (subC (bodyC PP 4) [1, 1, 1, 1, 1, 1, 1, 0, 1, 0, 0]) (m_fieldfarelaw7_VectRowttttttthtb_k K r0) a H = m_fieldfarelaw7_VectRowttttttthtbl K r0 (a 0) (a 1) (a 8) (a 42) (a 43) H :=
  by kernel_rfl
def m_fieldfarelaw7_VectRowttttttthtb (K : AV → AH → Prop) (x0 x1 x8 x42 x43 : AV) (H : AH) : Prop :=
  loopP (fun (r0 : (AV × AV × AV × AV × AV) → AH → Prop) (s : (AV × AV × AV × AV × AV)) (H : AH) => m_fieldfarelaw7_VectRowttttttthtbl K r0 s.1 s.2.1 s.2.2.1 s.2.2.2.1 s.2.2.2.2 H) (x0, x1, x8, x42, x43) H
theorem m_fieldfarelaw7_VectRowttttttthtb_eq (K : AV → AH → Prop) (a : TE) (H : AH) : codeP PP CC (subC (bodyC PP 4) [1, 1, 1, 1, 1, 1, 1, 0, 1, 0]) (m_fieldfarelaw7_VectRowtttttttht_k K) a H = m_fieldfarelaw7_VectRowttttttthtb K (a 0) (a 1) (a 8) (a 42) (a 43) H :=
  have h1 : codeP PP CC (subC (bodyC PP 4) [1, 1, 1, 1, 1, 1, 1, 0, 1, 0]) (m_fieldfarelaw7_VectRowtttttttht_k K) a H = loopP (fun (rec : KE) => codeP PP CC (subC (bodyC PP 4) [1, 1, 1, 1, 1, 1, 1, 0, 1, 0, 0]) (exP rec (m_fieldfarelaw7_VectRowtttttttht_k K))) a H := by kernel_rfl
  have h2 := loopP_iso (F := fun (rec : KE) => codeP PP CC (subC (bodyC PP 4) [1, 1, 1, 1, 1, 1, 1, 0, 1, 0, 0]) (exP rec (m_fieldfarelaw7_VectRowtttttttht_k K))) (S := (AV × AV × AV × AV × AV)) (fun a => (a 0, a 1, a 8, a 42, a 43)) (fun (r0 : (AV × AV × AV × AV × AV) → AH → Prop) (s : (AV × AV × AV × AV × AV)) (H : AH) => m_fieldfarelaw7_VectRowttttttthtbl K r0 s.1 s.2.1 s.2.2.1 s.2.2.2.1 s.2.2.2.2 H) (fun (r0 : (AV × AV × AV × AV × AV) → AH → Prop) (a : TE) (H : AH) => (show codeP PP CC (subC (bodyC PP 4) [1, 1, 1, 1, 1, 1, 1, 0, 1, 0, 0]) (exP (fun (a : TE) (H : AH) => r0 (a 0, a 1, a 8, a 42, a 43) H) (m_fieldfarelaw7_VectRowtttttttht_k K)) a H = codeP PP CC (subC (bodyC PP 4) [1, 1, 1, 1, 1, 1, 1, 0, 1, 0, 0]) (m_fieldfarelaw7_VectRowttttttthtb_k K r0) a H from by kernel_rfl).trans (m_fieldfarelaw7_VectRowttttttthtbl_eq K r0 a H)) a H
  h1.trans h2
theorem m_fieldfarelaw7_VectRowtttttttht_eq (K : AV → AH → Prop) (a : TE) (H : AH) : codeP PP CC (subC (bodyC PP 4) [1, 1, 1, 1, 1, 1, 1, 0, 1]) (m_fieldfarelaw7_VectRowttttttt_k K) a H = m_fieldfarelaw7_VectRowttttttthtb K (a 0) (a 1) (a 8) (a 42) (a 43) H :=
  have h1 : codeP PP CC (subC (bodyC PP 4) [1, 1, 1, 1, 1, 1, 1, 0, 1]) (m_fieldfarelaw7_VectRowttttttt_k K) a H = codeP PP CC (subC (bodyC PP 4) [1, 1, 1, 1, 1, 1, 1, 0, 1, 0]) (m_fieldfarelaw7_VectRowtttttttht_k K) a H := by kernel_rfl
  h1.trans (m_fieldfarelaw7_VectRowttttttthtb_eq K a H)
abbrev m_fieldfarelaw7_VectRowttttttth_k (K : AV → AH → Prop) : KP := exP (fun (a : TE) (H : AH) => m_fieldfarelaw7_VectRowttttttthtb K (a 0) (a 1) (a 8) (a 42) (a 43) H) (m_fieldfarelaw7_VectRowttttttt_k K)
def m_fieldfarelaw7_VectRowttttttth (K : AV → AH → Prop) (x0 x1 x8 : AV) (H : AH) : Prop :=
  outP CC H (w_len PP 28 H x0) fun v1 H1 =>
  m_fieldfarelaw7_VectRowttttttthtb K x0 x1 x8 v1 (.int .i64 0) H1
theorem m_fieldfarelaw7_VectRowttttttth_eq (K : AV → AH → Prop) (a : TE) (H : AH) : codeP PP CC (subC (bodyC PP 4) [1, 1, 1, 1, 1, 1, 1, 0]) (m_fieldfarelaw7_VectRowttttttt_k K) a H = m_fieldfarelaw7_VectRowttttttth K (a 0) (a 1) (a 8) H :=
  have h1 : codeP PP CC (subC (bodyC PP 4) [1, 1, 1, 1, 1, 1, 1, 0]) (m_fieldfarelaw7_VectRowttttttt_k K) a H = codeP PP CC (subC (bodyC PP 4) [1, 1, 1, 1, 1, 1, 1, 0, 0]) (exP (codeP PP CC (subC (bodyC PP 4) [1, 1, 1, 1, 1, 1, 1, 0, 1]) (m_fieldfarelaw7_VectRowttttttt_k K)) (m_fieldfarelaw7_VectRowttttttt_k K)) a H := by kernel_rfl
  have h2 : codeP PP CC (subC (bodyC PP 4) [1, 1, 1, 1, 1, 1, 1, 0, 0]) (exP (codeP PP CC (subC (bodyC PP 4) [1, 1, 1, 1, 1, 1, 1, 0, 1]) (m_fieldfarelaw7_VectRowttttttt_k K)) (m_fieldfarelaw7_VectRowttttttt_k K)) a H = codeP PP CC (subC (bodyC PP 4) [1, 1, 1, 1, 1, 1, 1, 0, 0]) (exP (fun (a : TE) (H : AH) => m_fieldfarelaw7_VectRowttttttthtb K (a 0) (a 1) (a 8) (a 42) (a 43) H) (m_fieldfarelaw7_VectRowttttttt_k K)) a H := congrArg (fun k : KE => codeP PP CC (subC (bodyC PP 4) [1, 1, 1, 1, 1, 1, 1, 0, 0]) (exP k (m_fieldfarelaw7_VectRowttttttt_k K)) a H) (funext fun a => funext fun H => m_fieldfarelaw7_VectRowtttttttht_eq K a H)
  have h2b : codeP PP CC (subC (bodyC PP 4) [1, 1, 1, 1, 1, 1, 1, 0, 0]) (exP (fun (a : TE) (H : AH) => m_fieldfarelaw7_VectRowttttttthtb K (a 0) (a 1) (a 8) (a 42) (a 43) H) (m_fieldfarelaw7_VectRowttttttt_k K)) a H = codeP PP CC (subC (bodyC PP 4) [1, 1, 1, 1, 1, 1, 1, 0, 0]) (m_fieldfarelaw7_VectRowttttttth_k K) a H := by kernel_rfl
  have h3 : codeP PP CC (subC (bodyC PP 4) [1, 1, 1, 1, 1, 1, 1, 0, 0]) (m_fieldfarelaw7_VectRowttttttth_k K) a H = m_fieldfarelaw7_VectRowttttttth K (a 0) (a 1) (a 8) H := by kernel_rfl
  ((h1.trans h2).trans h2b).trans h3
theorem m_fieldfarelaw7_VectRowttttttt_eq (K : AV → AH → Prop) (a : TE) (H : AH) : codeP PP CC (subC (bodyC PP 4) [1, 1, 1, 1, 1, 1, 1]) (m_fieldfarelaw7_VectRow_K K) a H = m_fieldfarelaw7_VectRowttttttth K (a 0) (a 1) (a 8) H :=
  have h1 : codeP PP CC (subC (bodyC PP 4) [1, 1, 1, 1, 1, 1, 1]) (m_fieldfarelaw7_VectRow_K K) a H = codeP PP CC (subC (bodyC PP 4) [1, 1, 1, 1, 1, 1, 1, 0]) (m_fieldfarelaw7_VectRowttttttt_k K) a H := by kernel_rfl
  h1.trans (m_fieldfarelaw7_VectRowttttttth_eq K a H)
abbrev m_fieldfarelaw7_VectRowtttttt_k (K : AV → AH → Prop) : KP := exP (fun (a : TE) (H : AH) => m_fieldfarelaw7_VectRowttttttth K (a 0) (a 1) (a 8) H) (m_fieldfarelaw7_VectRow_K K)
def m_fieldfarelaw7_VectRowtttttt (K : AV → AH → Prop) (x0 x1 x6 : AV) (H : AH) : Prop :=
  outP CC H (some (.enter 16 [x6])) fun v1 H1 =>
  outP CC H1 (some (.enter 15 [v1])) fun v2 H2 =>
  m_fieldfarelaw7_VectRowttttttth K x0 x1 v2 H2
theorem m_fieldfarelaw7_VectRowtttttt_eq (K : AV → AH → Prop) (a : TE) (H : AH) : codeP PP CC (subC (bodyC PP 4) [1, 1, 1, 1, 1, 1]) (m_fieldfarelaw7_VectRow_K K) a H = m_fieldfarelaw7_VectRowtttttt K (a 0) (a 1) (a 6) H :=
  have h1 : codeP PP CC (subC (bodyC PP 4) [1, 1, 1, 1, 1, 1]) (m_fieldfarelaw7_VectRow_K K) a H = codeP PP CC (subC (bodyC PP 4) [1, 1, 1, 1, 1, 1, 0]) (exP (codeP PP CC (subC (bodyC PP 4) [1, 1, 1, 1, 1, 1, 1]) (m_fieldfarelaw7_VectRow_K K)) (m_fieldfarelaw7_VectRow_K K)) a H := by kernel_rfl
  have h2 : codeP PP CC (subC (bodyC PP 4) [1, 1, 1, 1, 1, 1, 0]) (exP (codeP PP CC (subC (bodyC PP 4) [1, 1, 1, 1, 1, 1, 1]) (m_fieldfarelaw7_VectRow_K K)) (m_fieldfarelaw7_VectRow_K K)) a H = codeP PP CC (subC (bodyC PP 4) [1, 1, 1, 1, 1, 1, 0]) (exP (fun (a : TE) (H : AH) => m_fieldfarelaw7_VectRowttttttth K (a 0) (a 1) (a 8) H) (m_fieldfarelaw7_VectRow_K K)) a H := congrArg (fun k : KE => codeP PP CC (subC (bodyC PP 4) [1, 1, 1, 1, 1, 1, 0]) (exP k (m_fieldfarelaw7_VectRow_K K)) a H) (funext fun a => funext fun H => m_fieldfarelaw7_VectRowttttttt_eq K a H)
  have h2b : codeP PP CC (subC (bodyC PP 4) [1, 1, 1, 1, 1, 1, 0]) (exP (fun (a : TE) (H : AH) => m_fieldfarelaw7_VectRowttttttth K (a 0) (a 1) (a 8) H) (m_fieldfarelaw7_VectRow_K K)) a H = codeP PP CC (subC (bodyC PP 4) [1, 1, 1, 1, 1, 1, 0]) (m_fieldfarelaw7_VectRowtttttt_k K) a H := by kernel_rfl
  have h3 : codeP PP CC (subC (bodyC PP 4) [1, 1, 1, 1, 1, 1, 0]) (m_fieldfarelaw7_VectRowtttttt_k K) a H = m_fieldfarelaw7_VectRowtttttt K (a 0) (a 1) (a 6) H := by kernel_rfl
  ((h1.trans h2).trans h2b).trans h3
abbrev m_fieldfarelaw7_VectRowttttt_k (K : AV → AH → Prop) : KP := exP (fun (a : TE) (H : AH) => m_fieldfarelaw7_VectRowtttttt K (a 0) (a 1) (a 6) H) (m_fieldfarelaw7_VectRow_K K)
abbrev m_fieldfarelaw7_VectRowtttttht_k (K : AV → AH → Prop) : KP := blockP 0 (m_fieldfarelaw7_VectRowttttt_k K)
abbrev m_fieldfarelaw7_VectRowttttthtb_k (K : AV → AH → Prop) (r0 : (AV × AV × AV × AV × AV) → AH → Prop) : KP := exP (fun (a : TE) (H : AH) => r0 (a 0, a 1, a 6, a 19, a 20) H) (m_fieldfarelaw7_VectRowtttttht_k K)
def m_fieldfarelaw7_VectRowttttthtbl (K : AV → AH → Prop) (r0 : (AV × AV × AV × AV × AV) → AH → Prop) (x0 x1 x6 x19 x20 : AV) (H : AH) : Prop :=
  outP CC H (w_int .lss H x20 x19) fun v1 H1 =>
  condP v1
  (outP CC H1 (w_indexAddr (.sl 1) H1 x0 x20) fun v2 H2 =>
  outP CC H2 (w_load none H2 v2) fun v3 H3 =>
  outP CC H3 (w_indexAddr (.sl 1) H3 x0 x20) fun v4 H4 =>
  outP CC H4 (w_load none H4 v4) fun v5 H5 =>
  outP CC H5 (w_len PP 25 H5 v5) fun v6 H6 =>
  outP CC H6 (w_min2 H6 v6 (.int .i64 8)) fun v7 H7 =>
  outP CC H7 (w_slice (.sl 1) true false H7 v3 none (some v7) none) fun v8 H8 =>
  outP CC H8 (some (.enter 13 [x6, v8])) fun _v9 H9 =>
  outP CC H9 (w_buildSlice PP 2 1 H9 [(0, x1)] none) fun v10 H10 =>
  outP CC H10 (some (.enter 14 [x6, v10])) fun _v11 H11 =>
  outP CC H11 (w_int .add H11 x20 (.int .i64 1)) fun v12 H12 =>
  r0 (x0, x1, x6, x19, v12) H12)
  (m_fieldfarelaw7_VectRowtttttt K x0 x1 x6 H1)
theorem m_fieldfarelaw7_VectRowttttthtbl_eq (K : AV → AH → Prop) (r0 : (AV × AV × AV × AV × AV) → AH → Prop) (a : TE) (H : AH) : codeP PP CC (subC (bodyC PP 4) [1, 1, 1, 1, 1, 0, 1, 0, 0]) (m_fieldfarelaw7_VectRowttttthtb_k K r0) a H = m_fieldfarelaw7_VectRowttttthtbl K r0 (a 0) (a 1) (a 6) (a 19) (a 20) H :=
  by kernel_rfl
def m_fieldfarelaw7_VectRowttttthtb (K : AV → AH → Prop) (x0 x1 x6 x19 x20 : AV) (H : AH) : Prop :=
  loopP (fun (r0 : (AV × AV × AV × AV × AV) → AH → Prop) (s : (AV × AV × AV × AV × AV)) (H : AH) => m_fieldfarelaw7_VectRowttttthtbl K r0 s.1 s.2.1 s.2.2.1 s.2.2.2.1 s.2.2.2.2 H) (x0, x1, x6, x19, x20) H
theorem m_fieldfarelaw7_VectRowttttthtb_eq (K : AV → AH → Prop) (a : TE) (H : AH) : codeP PP CC (subC (bodyC PP 4) [1, 1, 1, 1, 1, 0, 1, 0]) (m_fieldfarelaw7_VectRowtttttht_k K) a H = m_fieldfarelaw7_VectRowttttthtb K (a 0) (a 1) (a 6) (a 19) (a 20) H :=
  have h1 : codeP PP CC (subC (bodyC PP 4) [1, 1, 1, 1, 1, 0, 1, 0]) (m_fieldfarelaw7_VectRowtttttht_k K) a H = loopP (fun (rec : KE) => codeP PP CC (subC (bodyC PP 4) [1, 1, 1, 1, 1, 0, 1, 0, 0]) (exP rec (m_fieldfarelaw7_VectRowtttttht_k K))) a H := by kernel_rfl
  have h2 := loopP_iso (F := fun (rec : KE) => codeP PP CC (subC (bodyC PP 4) [1, 1, 1, 1, 1, 0, 1, 0, 0]) (exP rec (m_fieldfarelaw7_VectRowtttttht_k K))) (S := (AV × AV × AV × AV × AV)) (fun a => (a 0, a 1, a 6, a 19, a 20)) (fun (r0 : (AV × AV × AV × AV × AV) → AH → Prop) (s : (AV × AV × AV × AV × AV)) (H : AH) => m_fieldfarelaw7_VectRowttttthtbl K r0 s.1 s.2.1 s.2.2.1 s.2.2.2.1 s.2.2.2.2 H) (fun (r0 : (AV × AV × AV × AV × AV) → AH → Prop) (a : TE) (H : AH) => (show codeP PP CC (subC (bodyC PP 4) [1, 1, 1, 1, 1, 0, 1, 0, 0]) (exP (fun (a : TE) (H : AH) => r0 (a 0, a 1, a 6, a 19, a 20) H) (m_fieldfarelaw7_VectRowtttttht_k K)) a H = codeP PP CC (subC (bodyC PP 4) [1, 1, 1, 1, 1, 0, 1, 0, 0]) (m_fieldfarelaw7_VectRowttttthtb_k K r0) a H from by kernel_rfl).trans (m_fieldfarelaw7_VectRowttttthtbl_eq K r0 a H)) a H
  h1.trans h2
theorem m_fieldfarelaw7_VectRowtttttht_eq (K : AV → AH → Prop) (a : TE) (H : AH) : codeP PP CC (subC (bodyC PP 4) [1, 1, 1, 1, 1, 0, 1]) (m_fieldfarelaw7_VectRowttttt_k K) a H = m_fieldfarelaw7_VectRowttttthtb K (a 0) (a 1) (a 6) (a 19) (a 20) H :=
  have h1 : codeP PP CC (subC (bodyC PP 4) [1, 1, 1, 1, 1, 0, 1]) (m_fieldfarelaw7_VectRowttttt_k K) a H = codeP PP CC (subC (bodyC PP 4) [1, 1, 1, 1, 1, 0, 1, 0]) (m_fieldfarelaw7_VectRowtttttht_k K) a H := by kernel_rfl
  h1.trans (m_fieldfarelaw7_VectRowttttthtb_eq K a H)
abbrev m_fieldfarelaw7_VectRowttttth_k (K : AV → AH → Prop) : KP := exP (fun (a : TE) (H : AH) => m_fieldfarelaw7_VectRowttttthtb K (a 0) (a 1) (a 6) (a 19) (a 20) H) (m_fieldfarelaw7_VectRowttttt_k K)
def m_fieldfarelaw7_VectRowttttth (K : AV → AH → Prop) (x0 x1 x6 : AV) (H : AH) : Prop :=
  outP CC H (w_len PP 28 H x0) fun v1 H1 =>
  m_fieldfarelaw7_VectRowttttthtb K x0 x1 x6 v1 (.int .i64 0) H1
theorem m_fieldfarelaw7_VectRowttttth_eq (K : AV → AH → Prop) (a : TE) (H : AH) : codeP PP CC (subC (bodyC PP 4) [1, 1, 1, 1, 1, 0]) (m_fieldfarelaw7_VectRowttttt_k K) a H = m_fieldfarelaw7_VectRowttttth K (a 0) (a 1) (a 6) H :=
  have h1 : codeP PP CC (subC (bodyC PP 4) [1, 1, 1, 1, 1, 0]) (m_fieldfarelaw7_VectRowttttt_k K) a H = codeP PP CC (subC (bodyC PP 4) [1, 1, 1, 1, 1, 0, 0]) (exP (codeP PP CC (subC (bodyC PP 4) [1, 1, 1, 1, 1, 0, 1]) (m_fieldfarelaw7_VectRowttttt_k K)) (m_fieldfarelaw7_VectRowttttt_k K)) a H := by kernel_rfl
  have h2 : codeP PP CC (subC (bodyC PP 4) [1, 1, 1, 1, 1, 0, 0]) (exP (codeP PP CC (subC (bodyC PP 4) [1, 1, 1, 1, 1, 0, 1]) (m_fieldfarelaw7_VectRowttttt_k K)) (m_fieldfarelaw7_VectRowttttt_k K)) a H = codeP PP CC (subC (bodyC PP 4) [1, 1, 1, 1, 1, 0, 0]) (exP (fun (a : TE) (H : AH) => m_fieldfarelaw7_VectRowttttthtb K (a 0) (a 1) (a 6) (a 19) (a 20) H) (m_fieldfarelaw7_VectRowttttt_k K)) a H := congrArg (fun k : KE => codeP PP CC (subC (bodyC PP 4) [1, 1, 1, 1, 1, 0, 0]) (exP k (m_fieldfarelaw7_VectRowttttt_k K)) a H) (funext fun a => funext fun H => m_fieldfarelaw7_VectRowtttttht_eq K a H)
  have h2b : codeP PP CC (subC (bodyC PP 4) [1, 1, 1, 1, 1, 0, 0]) (exP (fun (a : TE) (H : AH) => m_fieldfarelaw7_VectRowttttthtb K (a 0) (a 1) (a 6) (a 19) (a 20) H) (m_fieldfarelaw7_VectRowttttt_k K)) a H = codeP PP CC (subC (bodyC PP 4) [1, 1, 1, 1, 1, 0, 0]) (m_fieldfarelaw7_VectRowttttth_k K) a H := by kernel_rfl
  have h3 : codeP PP CC (subC (bodyC PP 4) [1, 1, 1, 1, 1, 0, 0]) (m_fieldfarelaw7_VectRowttttth_k K) a H = m_fieldfarelaw7_VectRowttttth K (a 0) (a 1) (a 6) H := by kernel_rfl
  ((h1.trans h2).trans h2b).trans h3
theorem m_fieldfarelaw7_VectRowttttt_eq (K : AV → AH → Prop) (a : TE) (H : AH) : codeP PP CC (subC (bodyC PP 4) [1, 1, 1, 1, 1]) (m_fieldfarelaw7_VectRow_K K) a H = m_fieldfarelaw7_VectRowttttth K (a 0) (a 1) (a 6) H :=
  have h1 : codeP PP CC (subC (bodyC PP 4) [1, 1, 1, 1, 1]) (m_fieldfarelaw7_VectRow_K K) a H = codeP PP CC (subC (bodyC PP 4) [1, 1, 1, 1, 1, 0]) (exP (codeP PP CC (subC (bodyC PP 4) [1, 1, 1, 1, 1, 1]) (m_fieldfarelaw7_VectRow_K K)) (m_fieldfarelaw7_VectRow_K K)) a H := by kernel_rfl
  have h2 : codeP PP CC (subC (bodyC PP 4) [1, 1, 1, 1, 1, 0]) (exP (codeP PP CC (subC (bodyC PP 4) [1, 1, 1, 1, 1, 1]) (m_fieldfarelaw7_VectRow_K K)) (m_fieldfarelaw7_VectRow_K K)) a H = codeP PP CC (subC (bodyC PP 4) [1, 1, 1, 1, 1, 0]) (exP (fun (a : TE) (H : AH) => m_fieldfarelaw7_VectRowtttttt K (a 0) (a 1) (a 6) H) (m_fieldfarelaw7_VectRow_K K)) a H := congrArg (fun k : KE => codeP PP CC (subC (bodyC PP 4) [1, 1, 1, 1, 1, 0]) (exP k (m_fieldfarelaw7_VectRow_K K)) a H) (funext fun a => funext fun H => m_fieldfarelaw7_VectRowtttttt_eq K a H)
  have h2b : codeP PP CC (subC (bodyC PP 4) [1, 1, 1, 1, 1, 0]) (exP (fun (a : TE) (H : AH) => m_fieldfarelaw7_VectRowtttttt K (a 0) (a 1) (a 6) H) (m_fieldfarelaw7_VectRow_K K)) a H = codeP PP CC (subC (bodyC PP 4) [1, 1, 1, 1, 1, 0]) (m_fieldfarelaw7_VectRowttttt_k K) a H := by kernel_rfl
  ((h1.trans h2).trans h2b).trans (m_fieldfarelaw7_VectRowttttth_eq K a H)
abbrev m_fieldfarelaw7_VectRowtttt_k (K : AV → AH → Prop) : KP := exP (fun (a : TE) (H : AH) => m_fieldfarelaw7_VectRowttttth K (a 0) (a 1) (a 6) H) (m_fieldfarelaw7_VectRow_K K)
def m_fieldfarelaw7_VectRowtttt (K : AV → AH → Prop) (x0 x1 x6 : AV) (H : AH) : Prop :=
  outP CC H (w_len PP 28 H x0) fun v1 H1 =>
  outP CC H1 (w_min2 H1 v1 (.int .i64 10)) fun v2 H2 =>
  outP CC H2 (w_slice (.sl 1) true false H2 x0 none (some v2) none) fun v3 H3 =>
  m_fieldfarelaw7_VectRowttttth K v3 x1 x6 H3
theorem m_fieldfarelaw7_VectRowtttt_eq (K : AV → AH → Prop) (a : TE) (H : AH) : codeP PP CC (subC (bodyC PP 4) [1, 1, 1, 1]) (m_fieldfarelaw7_VectRow_K K) a H = m_fieldfarelaw7_VectRowtttt K (a 0) (a 1) (a 6) H :=
  have h1 : codeP PP CC (subC (bodyC PP 4) [1, 1, 1, 1]) (m_fieldfarelaw7_VectRow_K K) a H = codeP PP CC (subC (bodyC PP 4) [1, 1, 1, 1, 0]) (exP (codeP PP CC (subC (bodyC PP 4) [1, 1, 1, 1, 1]) (m_fieldfarelaw7_VectRow_K K)) (m_fieldfarelaw7_VectRow_K K)) a H := by kernel_rfl
  have h2 : codeP PP CC (subC (bodyC PP 4) [1, 1, 1, 1, 0]) (exP (codeP PP CC (subC (bodyC PP 4) [1, 1, 1, 1, 1]) (m_fieldfarelaw7_VectRow_K K)) (m_fieldfarelaw7_VectRow_K K)) a H = codeP PP CC (subC (bodyC PP 4) [1, 1, 1, 1, 0]) (exP (fun (a : TE) (H : AH) => m_fieldfarelaw7_VectRowttttth K (a 0) (a 1) (a 6) H) (m_fieldfarelaw7_VectRow_K K)) a H := congrArg (fun k : KE => codeP PP CC (subC (bodyC PP 4) [1, 1, 1, 1, 0]) (exP k (m_fieldfarelaw7_VectRow_K K)) a H) (funext fun a => funext fun H => m_fieldfarelaw7_VectRowttttt_eq K a H)
  have h2b : codeP PP CC (subC (bodyC PP 4) [1, 1, 1, 1, 0]) (exP (fun (a : TE) (H : AH) => m_fieldfarelaw7_VectRowttttth K (a 0) (a 1) (a 6) H) (m_fieldfarelaw7_VectRow_K K)) a H = codeP PP CC (subC (bodyC PP 4) [1, 1, 1, 1, 0]) (m_fieldfarelaw7_VectRowtttt_k K) a H := by kernel_rfl
  have h3 : codeP PP CC (subC (bodyC PP 4) [1, 1, 1, 1, 0]) (m_fieldfarelaw7_VectRowtttt_k K) a H = m_fieldfarelaw7_VectRowtttt K (a 0) (a 1) (a 6) H := by kernel_rfl
  ((h1.trans h2).trans h2b).trans h3
abbrev m_fieldfarelaw7_VectRowttt_k (K : AV → AH → Prop) : KP := exP (fun (a : TE) (H : AH) => m_fieldfarelaw7_VectRowtttt K (a 0) (a 1) (a 6) H) (m_fieldfarelaw7_VectRow_K K)
def m_fieldfarelaw7_VectRowttt (K : AV → AH → Prop) (x0 x1 : AV) (H : AH) : Prop :=
  outP CC H (w_alloc 31 [(.slice none 0 0 true)] H none) fun v1 H1 =>
  m_fieldfarelaw7_VectRowtttt K x0 x1 v1 H1
theorem m_fieldfarelaw7_VectRowttt_eq (K : AV → AH → Prop) (a : TE) (H : AH) : codeP PP CC (subC (bodyC PP 4) [1, 1, 1]) (m_fieldfarelaw7_VectRow_K K) a H = m_fieldfarelaw7_VectRowttt K (a 0) (a 1) H :=
  have h1 : codeP PP CC (subC (bodyC PP 4) [1, 1, 1]) (m_fieldfarelaw7_VectRow_K K) a H = codeP PP CC (subC (bodyC PP 4) [1, 1, 1, 0]) (exP (codeP PP CC (subC (bodyC PP 4) [1, 1, 1, 1]) (m_fieldfarelaw7_VectRow_K K)) (m_fieldfarelaw7_VectRow_K K)) a H := by kernel_rfl
  have h2 : codeP PP CC (subC (bodyC PP 4) [1, 1, 1, 0]) (exP (codeP PP CC (subC (bodyC PP 4) [1, 1, 1, 1]) (m_fieldfarelaw7_VectRow_K K)) (m_fieldfarelaw7_VectRow_K K)) a H = codeP PP CC (subC (bodyC PP 4) [1, 1, 1, 0]) (exP (fun (a : TE) (H : AH) => m_fieldfarelaw7_VectRowtttt K (a 0) (a 1) (a 6) H) (m_fieldfarelaw7_VectRow_K K)) a H := congrArg (fun k : KE => codeP PP CC (subC (bodyC PP 4) [1, 1, 1, 0]) (exP k (m_fieldfarelaw7_VectRow_K K)) a H) (funext fun a => funext fun H => m_fieldfarelaw7_VectRowtttt_eq K a H)
  have h2b : codeP PP CC (subC (bodyC PP 4) [1, 1, 1, 0]) (exP (fun (a : TE) (H : AH) => m_fieldfarelaw7_VectRowtttt K (a 0) (a 1) (a 6) H) (m_fieldfarelaw7_VectRow_K K)) a H = codeP PP CC (subC (bodyC PP 4) [1, 1, 1, 0]) (m_fieldfarelaw7_VectRowttt_k K) a H := by kernel_rfl
  have h3 : codeP PP CC (subC (bodyC PP 4) [1, 1, 1, 0]) (m_fieldfarelaw7_VectRowttt_k K) a H = m_fieldfarelaw7_VectRowttt K (a 0) (a 1) H := by kernel_rfl
  ((h1.trans h2).trans h2b).trans h3
abbrev m_fieldfarelaw7_VectRowtt_k (K : AV → AH → Prop) : KP := exP (fun (a : TE) (H : AH) => m_fieldfarelaw7_VectRowttt K (a 0) (a 1) H) (m_fieldfarelaw7_VectRow_K K)
def m_fieldfarelaw7_VectRowtt (K : AV → AH → Prop) (x0 x1 x5 : AV) (H : AH) : Prop :=
  outP CC H (w_un .not H x5) fun v1 H1 =>
  condP v1
  (K (.bool false) H1)
  (m_fieldfarelaw7_VectRowttt K x0 x1 H1)
theorem m_fieldfarelaw7_VectRowtt_eq (K : AV → AH → Prop) (a : TE) (H : AH) : codeP PP CC (subC (bodyC PP 4) [1, 1]) (m_fieldfarelaw7_VectRow_K K) a H = m_fieldfarelaw7_VectRowtt K (a 0) (a 1) (a 5) H :=
  have h1 : codeP PP CC (subC (bodyC PP 4) [1, 1]) (m_fieldfarelaw7_VectRow_K K) a H = codeP PP CC (subC (bodyC PP 4) [1, 1, 0]) (exP (codeP PP CC (subC (bodyC PP 4) [1, 1, 1]) (m_fieldfarelaw7_VectRow_K K)) (m_fieldfarelaw7_VectRow_K K)) a H := by kernel_rfl
  have h2 : codeP PP CC (subC (bodyC PP 4) [1, 1, 0]) (exP (codeP PP CC (subC (bodyC PP 4) [1, 1, 1]) (m_fieldfarelaw7_VectRow_K K)) (m_fieldfarelaw7_VectRow_K K)) a H = codeP PP CC (subC (bodyC PP 4) [1, 1, 0]) (exP (fun (a : TE) (H : AH) => m_fieldfarelaw7_VectRowttt K (a 0) (a 1) H) (m_fieldfarelaw7_VectRow_K K)) a H := congrArg (fun k : KE => codeP PP CC (subC (bodyC PP 4) [1, 1, 0]) (exP k (m_fieldfarelaw7_VectRow_K K)) a H) (funext fun a => funext fun H => m_fieldfarelaw7_VectRowttt_eq K a H)
  have h2b : codeP PP CC (subC (bodyC PP 4) [1, 1, 0]) (exP (fun (a : TE) (H : AH) => m_fieldfarelaw7_VectRowttt K (a 0) (a 1) H) (m_fieldfarelaw7_VectRow_K K)) a H = codeP PP CC (subC (bodyC PP 4) [1, 1, 0]) (m_fieldfarelaw7_VectRowtt_k K) a H := by kernel_rfl
  have h3 : codeP PP CC (subC (bodyC PP 4) [1, 1, 0]) (m_fieldfarelaw7_VectRowtt_k K) a H = m_fieldfarelaw7_VectRowtt K (a 0) (a 1) (a 5) H := by kernel_rfl
  ((h1.trans h2).trans h2b).trans h3
abbrev m_fieldfarelaw7_VectRowt_k (K : AV → AH → Prop) : KP := exP (fun (a : TE) (H : AH) => m_fieldfarelaw7_VectRowtt K (a 0) (a 1) (a 5) H) (m_fieldfarelaw7_VectRow_K K)
def m_fieldfarelaw7_VectRowt (K : AV → AH → Prop) (x0 x1 : AV) (H : AH) : Prop :=
  outP CC H (some (.enter 10 [])) fun v1 H1 =>
  m_fieldfarelaw7_VectRowtt K x0 x1 v1 H1
theorem m_fieldfarelaw7_VectRowt_eq (K : AV → AH → Prop) (a : TE) (H : AH) : codeP PP CC (subC (bodyC PP 4) [1]) (m_fieldfarelaw7_VectRow_K K) a H = m_fieldfarelaw7_VectRowt K (a 0) (a 1) H :=
  have h1 : codeP PP CC (subC (bodyC PP 4) [1]) (m_fieldfarelaw7_VectRow_K K) a H = codeP PP CC (subC (bodyC PP 4) [1, 0]) (exP (codeP PP CC (subC (bodyC PP 4) [1, 1]) (m_fieldfarelaw7_VectRow_K K)) (m_fieldfarelaw7_VectRow_K K)) a H := by kernel_rfl
  have h2 : codeP PP CC (subC (bodyC PP 4) [1, 0]) (exP (codeP PP CC (subC (bodyC PP 4) [1, 1]) (m_fieldfarelaw7_VectRow_K K)) (m_fieldfarelaw7_VectRow_K K)) a H = codeP PP CC (subC (bodyC PP 4) [1, 0]) (exP (fun (a : TE) (H : AH) => m_fieldfarelaw7_VectRowtt K (a 0) (a 1) (a 5) H) (m_fieldfarelaw7_VectRow_K K)) a H := congrArg (fun k : KE => codeP PP CC (subC (bodyC PP 4) [1, 0]) (exP k (m_fieldfarelaw7_VectRow_K K)) a H) (funext fun a => funext fun H => m_fieldfarelaw7_VectRowtt_eq K a H)
  have h2b : codeP PP CC (subC (bodyC PP 4) [1, 0]) (exP (fun (a : TE) (H : AH) => m_fieldfarelaw7_VectRowtt K (a 0) (a 1) (a 5) H) (m_fieldfarelaw7_VectRow_K K)) a H = codeP PP CC (subC (bodyC PP 4) [1, 0]) (m_fieldfarelaw7_VectRowt_k K) a H := by kernel_rfl
  have h3 : codeP PP CC (subC (bodyC PP 4) [1, 0]) (m_fieldfarelaw7_VectRowt_k K) a H = m_fieldfarelaw7_VectRowt K (a 0) (a 1) H := by kernel_rfl
  ((h1.trans h2).trans h2b).trans h3
abbrev m_fieldfarelaw7_VectRow_k (K : AV → AH → Prop) : KP := exP (fun (a : TE) (H : AH) => m_fieldfarelaw7_VectRowt K (a 0) (a 1) H) (m_fieldfarelaw7_VectRow_K K)
def m_fieldfarelaw7_VectRow (K : AV → AH → Prop) (x0 x1 : AV) (H : AH) : Prop :=
  m_fieldfarelaw7_VectRowt K x0 x1 H
theorem m_fieldfarelaw7_VectRow_eq (K : AV → AH → Prop) (a : TE) (H : AH) : codeP PP CC (subC (bodyC PP 4) []) (m_fieldfarelaw7_VectRow_K K) a H = m_fieldfarelaw7_VectRow K (a 0) (a 1) H :=
  have h1 : codeP PP CC (subC (bodyC PP 4) []) (m_fieldfarelaw7_VectRow_K K) a H = codeP PP CC (subC (bodyC PP 4) [0]) (exP (codeP PP CC (subC (bodyC PP 4) [1]) (m_fieldfarelaw7_VectRow_K K)) (m_fieldfarelaw7_VectRow_K K)) a H := by kernel_rfl
  have h2 : codeP PP CC (subC (bodyC PP 4) [0]) (exP (codeP PP CC (subC (bodyC PP 4) [1]) (m_fieldfarelaw7_VectRow_K K)) (m_fieldfarelaw7_VectRow_K K)) a H = codeP PP CC (subC (bodyC PP 4) [0]) (exP (fun (a : TE) (H : AH) => m_fieldfarelaw7_VectRowt K (a 0) (a 1) H) (m_fieldfarelaw7_VectRow_K K)) a H := congrArg (fun k : KE => codeP PP CC (subC (bodyC PP 4) [0]) (exP k (m_fieldfarelaw7_VectRow_K K)) a H) (funext fun a => funext fun H => m_fieldfarelaw7_VectRowt_eq K a H)
  have h2b : codeP PP CC (subC (bodyC PP 4) [0]) (exP (fun (a : TE) (H : AH) => m_fieldfarelaw7_VectRowt K (a 0) (a 1) H) (m_fieldfarelaw7_VectRow_K K)) a H = codeP PP CC (subC (bodyC PP 4) [0]) (m_fieldfarelaw7_VectRow_k K) a H := by kernel_rfl
  have h3 : codeP PP CC (subC (bodyC PP 4) [0]) (m_fieldfarelaw7_VectRow_k K) a H = m_fieldfarelaw7_VectRow K (a 0) (a 1) H := by kernel_rfl
  ((h1.trans h2).trans h2b).trans h3
theorem m_fieldfarelaw7_VectRow_ok (x0 x1 : AV) (H : AH) (K : AV → AH → Prop) (h : m_fieldfarelaw7_VectRow K x0 x1 H) : CC.call 4 [x0, x1] H K :=
  have h1 : funP PP CC 4 [x0, x1] H K = codeP PP CC (subC (bodyC PP 4) []) (m_fieldfarelaw7_VectRow_K K) (argE [x0, x1]) H := by kernel_rfl
  have h2 : m_fieldfarelaw7_VectRow K (argE [x0, x1] 0) (argE [x0, x1] 1) H = m_fieldfarelaw7_VectRow K x0 x1 H := by kernel_rfl
  funP_ok (P := PP) (by kernel_rfl) (by kernel_rfl) ((h1.trans ((m_fieldfarelaw7_VectRow_eq K (argE [x0, x1]) H).trans h2)).mpr h)

end
end Go.Ab
