/- What functions do, said as what the evaluator does. Printed by a program. -/
import Derived.Test.YtapkhdlohcbcmaaGreatDoorBeg
import Derived.Test.YtapkhdlohcbcmaaGreatDoorEv3
namespace Go.Ab
noncomputable section
open Go.Proofs
set_option maxRecDepth 100000



/-! 7: fieldfare/fieldfarelaw7.QuantTurn -/
abbrev m_fieldfarelaw7_QuantTurn_K (K : AV → AH → Prop) : KP := finP PP (resC PP 7) K
def m_fieldfarelaw7_QuantTurnttttttttt (K : AV → AH → Prop) (x0 x9 x10 : AV) (H : AH) : Prop :=
  outP CC H (some (.enter 22 [x0, x10])) fun v1 H1 =>
  outP CC H1 (w_alloc 47 [(.slice none 0 0 true), (.slice none 0 0 true)] H1 none) fun v2 H2 =>
  outP CC H2 (w_store 2 H2 v2 v1) fun _v3 H3 =>
  outP CC H3 (w_load (some 2) H3 x9) fun v4 H4 =>
  outP CC H4 (w_fieldAddr 0 H4 v2) fun v5 H5 =>
  outP CC H5 (w_load none H5 v5) fun v6 H6 =>
  outP CC H6 (w_fieldAddr 1 H6 v2) fun v7 H7 =>
  outP CC H7 (w_load none H7 v7) fun v8 H8 =>
  outP CC H8 (w_build PP 54 H8 [(0, v6), (1, v8)]) fun v9 H9 =>
  outP CC H9 (some (.enter 26 [v4, v9])) fun v10 H10 =>
  guardP (boolIs true v10) H10 (outP CC H10 (w_fieldAddr 0 H10 x9)) fun v11 H11 =>
  guardP (boolIs true v10) H11 (outP CC H11 (w_load none H11 v11)) fun v12 H12 =>
  guardP (boolIs true v10) H12 (outP CC H12 (w_len PP 24 H12 v12)) fun v13 H13 =>
  guardP (boolIs true v10) H13 (outP CC H13 (some (.val x0 H13))) fun v14 H14 =>
  guardP (boolIs true v10) H14 (outP CC H14 (w_int .eql H14 v13 v14)) fun v15 H15 =>
  outP CC H15 (w_pick H15 v10 v15 (.bool false)) fun v16 H16 =>
  K v16 H16
theorem m_fieldfarelaw7_QuantTurnttttttttt_eq (K : AV → AH → Prop) (a : TE) (H : AH) : codeP PP CC (subC (bodyC PP 7) [1, 1, 1, 1, 1, 1, 1, 1, 1]) (m_fieldfarelaw7_QuantTurn_K K) a H = m_fieldfarelaw7_QuantTurnttttttttt K (a 0) (a 9) (a 10) H :=
  by kernel_rfl
abbrev m_fieldfarelaw7_QuantTurntttttttt_k (K : AV → AH → Prop) : KP := exP (fun (a : TE) (H : AH) => m_fieldfarelaw7_QuantTurnttttttttt K (a 0) (a 9) (a 10) H) (m_fieldfarelaw7_QuantTurn_K K)
def m_fieldfarelaw7_QuantTurntttttttt (K : AV → AH → Prop) (x0 x2 x8 x9 x10 : AV) (H : AH) : Prop :=
  outP CC H (w_len PP 28 H x8) fun v1 H1 =>
  outP CC H1 (w_int .gtr H1 v1 (.int .i64 0)) fun v2 H2 =>
  condP v2
  (outP CC H2 (w_len PP 28 H2 x8) fun v3 H3 =>
  outP CC H3 (w_int .rem H3 x2 v3) fun v4 H4 =>
  outP CC H4 (w_len PP 28 H4 x8) fun v5 H5 =>
  outP CC H5 (w_int .add H5 v4 v5) fun v6 H6 =>
  outP CC H6 (w_len PP 28 H6 x8) fun v7 H7 =>
  outP CC H7 (w_int .rem H7 v6 v7) fun v8 H8 =>
  outP CC H8 (w_indexAddr (.sl 1) H8 x8 v8) fun v9 H9 =>
  outP CC H9 (w_load none H9 v9) fun v10 H10 =>
  outP CC H10 (w_buildSlice PP 25 1 H10 [(0, v10)] none) fun v11 H11 =>
  outP CC H11 (w_append 25 1 24 H11 x10 v11 none) fun v12 H12 =>
  m_fieldfarelaw7_QuantTurnttttttttt K x0 x9 v12 H12)
  (m_fieldfarelaw7_QuantTurnttttttttt K x0 x9 x10 H2)
theorem m_fieldfarelaw7_QuantTurntttttttt_eq (K : AV → AH → Prop) (a : TE) (H : AH) : codeP PP CC (subC (bodyC PP 7) [1, 1, 1, 1, 1, 1, 1, 1]) (m_fieldfarelaw7_QuantTurn_K K) a H = m_fieldfarelaw7_QuantTurntttttttt K (a 0) (a 2) (a 8) (a 9) (a 10) H :=
  have h1 : codeP PP CC (subC (bodyC PP 7) [1, 1, 1, 1, 1, 1, 1, 1]) (m_fieldfarelaw7_QuantTurn_K K) a H = codeP PP CC (subC (bodyC PP 7) [1, 1, 1, 1, 1, 1, 1, 1, 0]) (exP (codeP PP CC (subC (bodyC PP 7) [1, 1, 1, 1, 1, 1, 1, 1, 1]) (m_fieldfarelaw7_QuantTurn_K K)) (m_fieldfarelaw7_QuantTurn_K K)) a H := by kernel_rfl
  have h2 : codeP PP CC (subC (bodyC PP 7) [1, 1, 1, 1, 1, 1, 1, 1, 0]) (exP (codeP PP CC (subC (bodyC PP 7) [1, 1, 1, 1, 1, 1, 1, 1, 1]) (m_fieldfarelaw7_QuantTurn_K K)) (m_fieldfarelaw7_QuantTurn_K K)) a H = codeP PP CC (subC (bodyC PP 7) [1, 1, 1, 1, 1, 1, 1, 1, 0]) (exP (fun (a : TE) (H : AH) => m_fieldfarelaw7_QuantTurnttttttttt K (a 0) (a 9) (a 10) H) (m_fieldfarelaw7_QuantTurn_K K)) a H := congrArg (fun k : KE => codeP PP CC (subC (bodyC PP 7) [1, 1, 1, 1, 1, 1, 1, 1, 0]) (exP k (m_fieldfarelaw7_QuantTurn_K K)) a H) (funext fun a => funext fun H => m_fieldfarelaw7_QuantTurnttttttttt_eq K a H)
  have h2b : codeP PP CC (subC (bodyC PP 7) [1, 1, 1, 1, 1, 1, 1, 1, 0]) (exP (fun (a : TE) (H : AH) => m_fieldfarelaw7_QuantTurnttttttttt K (a 0) (a 9) (a 10) H) (m_fieldfarelaw7_QuantTurn_K K)) a H = codeP PP CC (subC (bodyC PP 7) [1, 1, 1, 1, 1, 1, 1, 1, 0]) (m_fieldfarelaw7_QuantTurntttttttt_k K) a H := by kernel_rfl
  have h3 : codeP PP CC (subC (bodyC PP 7) [1, 1, 1, 1, 1, 1, 1, 1, 0]) (m_fieldfarelaw7_QuantTurntttttttt_k K) a H = m_fieldfarelaw7_QuantTurntttttttt K (a 0) (a 2) (a 8) (a 9) (a 10) H := by kernel_rfl
  ((h1.trans h2).trans h2b).trans h3
abbrev m_fieldfarelaw7_QuantTurnttttttt_k (K : AV → AH → Prop) : KP := exP (fun (a : TE) (H : AH) => m_fieldfarelaw7_QuantTurntttttttt K (a 0) (a 2) (a 8) (a 9) (a 10) H) (m_fieldfarelaw7_QuantTurn_K K)
abbrev m_fieldfarelaw7_QuantTurntttttttht_k (K : AV → AH → Prop) : KP := blockP 0 (m_fieldfarelaw7_QuantTurnttttttt_k K)
abbrev m_fieldfarelaw7_QuantTurnttttttthtb_k (K : AV → AH → Prop) (r0 : (AV × AV × AV × AV × AV × AV × AV) → AH → Prop) : KP := exP (fun (a : TE) (H : AH) => r0 (a 0, a 2, a 8, a 9, a 10, a 25, a 26) H) (m_fieldfarelaw7_QuantTurntttttttht_k K)
def m_fieldfarelaw7_QuantTurnttttttthtbl (K : AV → AH → Prop) (r0 : (AV × AV × AV × AV × AV × AV × AV) → AH → Prop) (x0 x2 x8 x9 x10 x25 x26 : AV) (H : AH) : Prop :=
  outP CC H (w_int .lss H x26 x25) fun v1 H1 =>
  condP v1
  (outP CC H1 (w_indexAddr (.sl 1) H1 x8 x26) fun v2 H2 =>
  outP CC H2 (w_load none H2 v2) fun v3 H3 =>
  outP CC H3 (w_buildSlice PP 25 1 H3 [(0, v3)] none) fun v4 H4 =>
  outP CC H4 (w_append 25 1 24 H4 v4 x10 none) fun v5 H5 =>
  outP CC H5 (w_int .add H5 x26 (.int .i64 1)) fun v6 H6 =>
  r0 (x0, x2, x8, x9, v5, x25, v6) H6)
  (m_fieldfarelaw7_QuantTurntttttttt K x0 x2 x8 x9 x10 H1)
theorem m_fieldfarelaw7_QuantTurnttttttthtbl_eq (K : AV → AH → Prop) (r0 : (AV × AV × AV × AV × AV × AV × AV) → AH → Prop) (a : TE) (H : AH) : codeP PP CC (subC (bodyC PP 7) [1, 1, 1, 1, 1, 1, 1, 0, 1, 0, 0]) (m_fieldfarelaw7_QuantTurnttttttthtb_k K r0) a H = m_fieldfarelaw7_QuantTurnttttttthtbl K r0 (a 0) (a 2) (a 8) (a 9) (a 10) (a 25) (a 26) H :=
  by kernel_rfl
def m_fieldfarelaw7_QuantTurnttttttthtb (K : AV → AH → Prop) (x0 x2 x8 x9 x10 x25 x26 : AV) (H : AH) : Prop :=
  loopP (fun (r0 : (AV × AV × AV × AV × AV × AV × AV) → AH → Prop) (s : (AV × AV × AV × AV × AV × AV × AV)) (H : AH) => m_fieldfarelaw7_QuantTurnttttttthtbl K r0 s.1 s.2.1 s.2.2.1 s.2.2.2.1 s.2.2.2.2.1 s.2.2.2.2.2.1 s.2.2.2.2.2.2 H) (x0, x2, x8, x9, x10, x25, x26) H
theorem m_fieldfarelaw7_QuantTurnttttttthtb_eq (K : AV → AH → Prop) (a : TE) (H : AH) : codeP PP CC (subC (bodyC PP 7) [1, 1, 1, 1, 1, 1, 1, 0, 1, 0]) (m_fieldfarelaw7_QuantTurntttttttht_k K) a H = m_fieldfarelaw7_QuantTurnttttttthtb K (a 0) (a 2) (a 8) (a 9) (a 10) (a 25) (a 26) H :=
  have h1 : codeP PP CC (subC (bodyC PP 7) [1, 1, 1, 1, 1, 1, 1, 0, 1, 0]) (m_fieldfarelaw7_QuantTurntttttttht_k K) a H = loopP (fun (rec : KE) => codeP PP CC (subC (bodyC PP 7) [1, 1, 1, 1, 1, 1, 1, 0, 1, 0, 0]) (exP rec (m_fieldfarelaw7_QuantTurntttttttht_k K))) a H := by kernel_rfl
  have h2 := loopP_iso (F := fun (rec : KE) => codeP PP CC (subC (bodyC PP 7) [1, 1, 1, 1, 1, 1, 1, 0, 1, 0, 0]) (exP rec (m_fieldfarelaw7_QuantTurntttttttht_k K))) (S := (AV × AV × AV × AV × AV × AV × AV)) (fun a => (a 0, a 2, a 8, a 9, a 10, a 25, a 26)) (fun (r0 : (AV × AV × AV × AV × AV × AV × AV) → AH → Prop) (s : (AV × AV × AV × AV × AV × AV × AV)) (H : AH) => m_fieldfarelaw7_QuantTurnttttttthtbl K r0 s.1 s.2.1 s.2.2.1 s.2.2.2.1 s.2.2.2.2.1 s.2.2.2.2.2.1 s.2.2.2.2.2.2 H) (fun (r0 : (AV × AV × AV × AV × AV × AV × AV) → AH → Prop) (a : TE) (H : AH) => (show codeP PP CC (subC (bodyC PP 7) [1, 1, 1, 1, 1, 1, 1, 0, 1, 0, 0]) (exP (fun (a : TE) (H : AH) => r0 (a 0, a 2, a 8, a 9, a 10, a 25, a 26) H) (m_fieldfarelaw7_QuantTurntttttttht_k K)) a H = codeP PP CC (subC (bodyC PP 7) [1, 1, 1, 1, 1, 1, 1, 0, 1, 0, 0]) (m_fieldfarelaw7_QuantTurnttttttthtb_k K r0) a H from by kernel_rfl).trans (m_fieldfarelaw7_QuantTurnttttttthtbl_eq K r0 a H)) a H
  h1.trans h2
theorem m_fieldfarelaw7_QuantTurntttttttht_eq (K : AV → AH → Prop) (a : TE) (H : AH) : codeP PP CC (subC (bodyC PP 7) [1, 1, 1, 1, 1, 1, 1, 0, 1]) (m_fieldfarelaw7_QuantTurnttttttt_k K) a H = m_fieldfarelaw7_QuantTurnttttttthtb K (a 0) (a 2) (a 8) (a 9) (a 10) (a 25) (a 26) H :=
  have h1 : codeP PP CC (subC (bodyC PP 7) [1, 1, 1, 1, 1, 1, 1, 0, 1]) (m_fieldfarelaw7_QuantTurnttttttt_k K) a H = codeP PP CC (subC (bodyC PP 7) [1, 1, 1, 1, 1, 1, 1, 0, 1, 0]) (m_fieldfarelaw7_QuantTurntttttttht_k K) a H := by kernel_rfl
  h1.trans (m_fieldfarelaw7_QuantTurnttttttthtb_eq K a H)
abbrev m_fieldfarelaw7_QuantTurnttttttth_k (K : AV → AH → Prop) : KP := exP (fun (a : TE) (H : AH) => m_fieldfarelaw7_QuantTurnttttttthtb K (a 0) (a 2) (a 8) (a 9) (a 10) (a 25) (a 26) H) (m_fieldfarelaw7_QuantTurnttttttt_k K)
def m_fieldfarelaw7_QuantTurnttttttth (K : AV → AH → Prop) (x0 x2 x8 x9 x10 : AV) (H : AH) : Prop :=
  outP CC H (w_len PP 28 H x8) fun v1 H1 =>
  m_fieldfarelaw7_QuantTurnttttttthtb K x0 x2 x8 x9 x10 v1 (.int .i64 0) H1
theorem m_fieldfarelaw7_QuantTurnttttttth_eq (K : AV → AH → Prop) (a : TE) (H : AH) : codeP PP CC (subC (bodyC PP 7) [1, 1, 1, 1, 1, 1, 1, 0]) (m_fieldfarelaw7_QuantTurnttttttt_k K) a H = m_fieldfarelaw7_QuantTurnttttttth K (a 0) (a 2) (a 8) (a 9) (a 10) H :=
  have h1 : codeP PP CC (subC (bodyC PP 7) [1, 1, 1, 1, 1, 1, 1, 0]) (m_fieldfarelaw7_QuantTurnttttttt_k K) a H = codeP PP CC (subC (bodyC PP 7) [1, 1, 1, 1, 1, 1, 1, 0, 0]) (exP (codeP PP CC (subC (bodyC PP 7) [1, 1, 1, 1, 1, 1, 1, 0, 1]) (m_fieldfarelaw7_QuantTurnttttttt_k K)) (m_fieldfarelaw7_QuantTurnttttttt_k K)) a H := by kernel_rfl
  have h2 : codeP PP CC (subC (bodyC PP 7) [1, 1, 1, 1, 1, 1, 1, 0, 0]) (exP (codeP PP CC (subC (bodyC PP 7) [1, 1, 1, 1, 1, 1, 1, 0, 1]) (m_fieldfarelaw7_QuantTurnttttttt_k K)) (m_fieldfarelaw7_QuantTurnttttttt_k K)) a H = codeP PP CC (subC (bodyC PP 7) [1, 1, 1, 1, 1, 1, 1, 0, 0]) (exP (fun (a : TE) (H : AH) => m_fieldfarelaw7_QuantTurnttttttthtb K (a 0) (a 2) (a 8) (a 9) (a 10) (a 25) (a 26) H) (m_fieldfarelaw7_QuantTurnttttttt_k K)) a H := congrArg (fun k : KE => codeP PP CC (subC (bodyC PP 7) [1, 1, 1, 1, 1, 1, 1, 0, 0]) (exP k (m_fieldfarelaw7_QuantTurnttttttt_k K)) a H) (funext fun a => funext fun H => m_fieldfarelaw7_QuantTurntttttttht_eq K a H)
  have h2b : codeP PP CC (subC (bodyC PP 7) [1, 1, 1, 1, 1, 1, 1, 0, 0]) (exP (fun (a : TE) (H : AH) => m_fieldfarelaw7_QuantTurnttttttthtb K (a 0) (a 2) (a 8) (a 9) (a 10) (a 25) (a 26) H) (m_fieldfarelaw7_QuantTurnttttttt_k K)) a H = codeP PP CC (subC (bodyC PP 7) [1, 1, 1, 1, 1, 1, 1, 0, 0]) (m_fieldfarelaw7_QuantTurnttttttth_k K) a H := by kernel_rfl
  have h3 : codeP PP CC (subC (bodyC PP 7) [1, 1, 1, 1, 1, 1, 1, 0, 0]) (m_fieldfarelaw7_QuantTurnttttttth_k K) a H = m_fieldfarelaw7_QuantTurnttttttth K (a 0) (a 2) (a 8) (a 9) (a 10) H := by kernel_rfl
  ((h1.trans h2).trans h2b).trans h3
theorem m_fieldfarelaw7_QuantTurnttttttt_eq (K : AV → AH → Prop) (a : TE) (H : AH) : codeP PP CC (subC (bodyC PP 7) [1, 1, 1, 1, 1, 1, 1]) (m_fieldfarelaw7_QuantTurn_K K) a H = m_fieldfarelaw7_QuantTurnttttttth K (a 0) (a 2) (a 8) (a 9) (a 10) H :=
  have h1 : codeP PP CC (subC (bodyC PP 7) [1, 1, 1, 1, 1, 1, 1]) (m_fieldfarelaw7_QuantTurn_K K) a H = codeP PP CC (subC (bodyC PP 7) [1, 1, 1, 1, 1, 1, 1, 0]) (exP (codeP PP CC (subC (bodyC PP 7) [1, 1, 1, 1, 1, 1, 1, 1]) (m_fieldfarelaw7_QuantTurn_K K)) (m_fieldfarelaw7_QuantTurn_K K)) a H := by kernel_rfl
  have h2 : codeP PP CC (subC (bodyC PP 7) [1, 1, 1, 1, 1, 1, 1, 0]) (exP (codeP PP CC (subC (bodyC PP 7) [1, 1, 1, 1, 1, 1, 1, 1]) (m_fieldfarelaw7_QuantTurn_K K)) (m_fieldfarelaw7_QuantTurn_K K)) a H = codeP PP CC (subC (bodyC PP 7) [1, 1, 1, 1, 1, 1, 1, 0]) (exP (fun (a : TE) (H : AH) => m_fieldfarelaw7_QuantTurntttttttt K (a 0) (a 2) (a 8) (a 9) (a 10) H) (m_fieldfarelaw7_QuantTurn_K K)) a H := congrArg (fun k : KE => codeP PP CC (subC (bodyC PP 7) [1, 1, 1, 1, 1, 1, 1, 0]) (exP k (m_fieldfarelaw7_QuantTurn_K K)) a H) (funext fun a => funext fun H => m_fieldfarelaw7_QuantTurntttttttt_eq K a H)
  have h2b : codeP PP CC (subC (bodyC PP 7) [1, 1, 1, 1, 1, 1, 1, 0]) (exP (fun (a : TE) (H : AH) => m_fieldfarelaw7_QuantTurntttttttt K (a 0) (a 2) (a 8) (a 9) (a 10) H) (m_fieldfarelaw7_QuantTurn_K K)) a H = codeP PP CC (subC (bodyC PP 7) [1, 1, 1, 1, 1, 1, 1, 0]) (m_fieldfarelaw7_QuantTurnttttttt_k K) a H := by kernel_rfl
  ((h1.trans h2).trans h2b).trans (m_fieldfarelaw7_QuantTurnttttttth_eq K a H)
abbrev m_fieldfarelaw7_QuantTurntttttt_k (K : AV → AH → Prop) : KP := exP (fun (a : TE) (H : AH) => m_fieldfarelaw7_QuantTurnttttttth K (a 0) (a 2) (a 8) (a 9) (a 10) H) (m_fieldfarelaw7_QuantTurn_K K)
def m_fieldfarelaw7_QuantTurntttttt (K : AV → AH → Prop) (x0 x2 x8 x9 : AV) (H : AH) : Prop :=
  m_fieldfarelaw7_QuantTurnttttttth K x0 x2 x8 x9 (.slice none 0 0 true) H
theorem m_fieldfarelaw7_QuantTurntttttt_eq (K : AV → AH → Prop) (a : TE) (H : AH) : codeP PP CC (subC (bodyC PP 7) [1, 1, 1, 1, 1, 1]) (m_fieldfarelaw7_QuantTurn_K K) a H = m_fieldfarelaw7_QuantTurntttttt K (a 0) (a 2) (a 8) (a 9) H :=
  have h1 : codeP PP CC (subC (bodyC PP 7) [1, 1, 1, 1, 1, 1]) (m_fieldfarelaw7_QuantTurn_K K) a H = codeP PP CC (subC (bodyC PP 7) [1, 1, 1, 1, 1, 1, 0]) (exP (codeP PP CC (subC (bodyC PP 7) [1, 1, 1, 1, 1, 1, 1]) (m_fieldfarelaw7_QuantTurn_K K)) (m_fieldfarelaw7_QuantTurn_K K)) a H := by kernel_rfl
  have h2 : codeP PP CC (subC (bodyC PP 7) [1, 1, 1, 1, 1, 1, 0]) (exP (codeP PP CC (subC (bodyC PP 7) [1, 1, 1, 1, 1, 1, 1]) (m_fieldfarelaw7_QuantTurn_K K)) (m_fieldfarelaw7_QuantTurn_K K)) a H = codeP PP CC (subC (bodyC PP 7) [1, 1, 1, 1, 1, 1, 0]) (exP (fun (a : TE) (H : AH) => m_fieldfarelaw7_QuantTurnttttttth K (a 0) (a 2) (a 8) (a 9) (a 10) H) (m_fieldfarelaw7_QuantTurn_K K)) a H := congrArg (fun k : KE => codeP PP CC (subC (bodyC PP 7) [1, 1, 1, 1, 1, 1, 0]) (exP k (m_fieldfarelaw7_QuantTurn_K K)) a H) (funext fun a => funext fun H => m_fieldfarelaw7_QuantTurnttttttt_eq K a H)
  have h2b : codeP PP CC (subC (bodyC PP 7) [1, 1, 1, 1, 1, 1, 0]) (exP (fun (a : TE) (H : AH) => m_fieldfarelaw7_QuantTurnttttttth K (a 0) (a 2) (a 8) (a 9) (a 10) H) (m_fieldfarelaw7_QuantTurn_K K)) a H = codeP PP CC (subC (bodyC PP 7) [1, 1, 1, 1, 1, 1, 0]) (m_fieldfarelaw7_QuantTurntttttt_k K) a H := by kernel_rfl
  have h3 : codeP PP CC (subC (bodyC PP 7) [1, 1, 1, 1, 1, 1, 0]) (m_fieldfarelaw7_QuantTurntttttt_k K) a H = m_fieldfarelaw7_QuantTurntttttt K (a 0) (a 2) (a 8) (a 9) H := by kernel_rfl
  ((h1.trans h2).trans h2b).trans h3
abbrev m_fieldfarelaw7_QuantTurnttttt_k (K : AV → AH → Prop) : KP := exP (fun (a : TE) (H : AH) => m_fieldfarelaw7_QuantTurntttttt K (a 0) (a 2) (a 8) (a 9) H) (m_fieldfarelaw7_QuantTurn_K K)
def m_fieldfarelaw7_QuantTurnttttt (K : AV → AH → Prop) (x0 x2 x8 : AV) (H : AH) : Prop :=
  outP CC H (some (.enter 22 [x0, x8])) fun v1 H1 =>
  outP CC H1 (w_alloc 47 [(.slice none 0 0 true), (.slice none 0 0 true)] H1 none) fun v2 H2 =>
  outP CC H2 (w_store 2 H2 v2 v1) fun _v3 H3 =>
  m_fieldfarelaw7_QuantTurntttttt K x0 x2 x8 v2 H3
theorem m_fieldfarelaw7_QuantTurnttttt_eq (K : AV → AH → Prop) (a : TE) (H : AH) : codeP PP CC (subC (bodyC PP 7) [1, 1, 1, 1, 1]) (m_fieldfarelaw7_QuantTurn_K K) a H = m_fieldfarelaw7_QuantTurnttttt K (a 0) (a 2) (a 8) H :=
  have h1 : codeP PP CC (subC (bodyC PP 7) [1, 1, 1, 1, 1]) (m_fieldfarelaw7_QuantTurn_K K) a H = codeP PP CC (subC (bodyC PP 7) [1, 1, 1, 1, 1, 0]) (exP (codeP PP CC (subC (bodyC PP 7) [1, 1, 1, 1, 1, 1]) (m_fieldfarelaw7_QuantTurn_K K)) (m_fieldfarelaw7_QuantTurn_K K)) a H := by kernel_rfl
  have h2 : codeP PP CC (subC (bodyC PP 7) [1, 1, 1, 1, 1, 0]) (exP (codeP PP CC (subC (bodyC PP 7) [1, 1, 1, 1, 1, 1]) (m_fieldfarelaw7_QuantTurn_K K)) (m_fieldfarelaw7_QuantTurn_K K)) a H = codeP PP CC (subC (bodyC PP 7) [1, 1, 1, 1, 1, 0]) (exP (fun (a : TE) (H : AH) => m_fieldfarelaw7_QuantTurntttttt K (a 0) (a 2) (a 8) (a 9) H) (m_fieldfarelaw7_QuantTurn_K K)) a H := congrArg (fun k : KE => codeP PP CC (subC (bodyC PP 7) [1, 1, 1, 1, 1, 0]) (exP k (m_fieldfarelaw7_QuantTurn_K K)) a H) (funext fun a => funext fun H => m_fieldfarelaw7_QuantTurntttttt_eq K a H)
  have h2b : codeP PP CC (subC (bodyC PP 7) [1, 1, 1, 1, 1, 0]) (exP (fun (a : TE) (H : AH) => m_fieldfarelaw7_QuantTurntttttt K (a 0) (a 2) (a 8) (a 9) H) (m_fieldfarelaw7_QuantTurn_K K)) a H = codeP PP CC (subC (bodyC PP 7) [1, 1, 1, 1, 1, 0]) (m_fieldfarelaw7_QuantTurnttttt_k K) a H := by kernel_rfl
  have h3 : codeP PP CC (subC (bodyC PP 7) [1, 1, 1, 1, 1, 0]) (m_fieldfarelaw7_QuantTurnttttt_k K) a H = m_fieldfarelaw7_QuantTurnttttt K (a 0) (a 2) (a 8) H := by kernel_rfl
  ((h1.trans h2).trans h2b).trans h3
abbrev m_fieldfarelaw7_QuantTurntttt_k (K : AV → AH → Prop) : KP := exP (fun (a : TE) (H : AH) => m_fieldfarelaw7_QuantTurnttttt K (a 0) (a 2) (a 8) H) (m_fieldfarelaw7_QuantTurn_K K)
def m_fieldfarelaw7_QuantTurntttt (K : AV → AH → Prop) (x0 x1 x2 : AV) (H : AH) : Prop :=
  outP CC H (some (.enter 23 [x1, x0, (.int .i64 12)])) fun v1 H1 =>
  m_fieldfarelaw7_QuantTurnttttt K x0 x2 v1 H1
theorem m_fieldfarelaw7_QuantTurntttt_eq (K : AV → AH → Prop) (a : TE) (H : AH) : codeP PP CC (subC (bodyC PP 7) [1, 1, 1, 1]) (m_fieldfarelaw7_QuantTurn_K K) a H = m_fieldfarelaw7_QuantTurntttt K (a 0) (a 1) (a 2) H :=
  have h1 : codeP PP CC (subC (bodyC PP 7) [1, 1, 1, 1]) (m_fieldfarelaw7_QuantTurn_K K) a H = codeP PP CC (subC (bodyC PP 7) [1, 1, 1, 1, 0]) (exP (codeP PP CC (subC (bodyC PP 7) [1, 1, 1, 1, 1]) (m_fieldfarelaw7_QuantTurn_K K)) (m_fieldfarelaw7_QuantTurn_K K)) a H := by kernel_rfl
  have h2 : codeP PP CC (subC (bodyC PP 7) [1, 1, 1, 1, 0]) (exP (codeP PP CC (subC (bodyC PP 7) [1, 1, 1, 1, 1]) (m_fieldfarelaw7_QuantTurn_K K)) (m_fieldfarelaw7_QuantTurn_K K)) a H = codeP PP CC (subC (bodyC PP 7) [1, 1, 1, 1, 0]) (exP (fun (a : TE) (H : AH) => m_fieldfarelaw7_QuantTurnttttt K (a 0) (a 2) (a 8) H) (m_fieldfarelaw7_QuantTurn_K K)) a H := congrArg (fun k : KE => codeP PP CC (subC (bodyC PP 7) [1, 1, 1, 1, 0]) (exP k (m_fieldfarelaw7_QuantTurn_K K)) a H) (funext fun a => funext fun H => m_fieldfarelaw7_QuantTurnttttt_eq K a H)
  have h2b : codeP PP CC (subC (bodyC PP 7) [1, 1, 1, 1, 0]) (exP (fun (a : TE) (H : AH) => m_fieldfarelaw7_QuantTurnttttt K (a 0) (a 2) (a 8) H) (m_fieldfarelaw7_QuantTurn_K K)) a H = codeP PP CC (subC (bodyC PP 7) [1, 1, 1, 1, 0]) (m_fieldfarelaw7_QuantTurntttt_k K) a H := by kernel_rfl
  have h3 : codeP PP CC (subC (bodyC PP 7) [1, 1, 1, 1, 0]) (m_fieldfarelaw7_QuantTurntttt_k K) a H = m_fieldfarelaw7_QuantTurntttt K (a 0) (a 1) (a 2) H := by kernel_rfl
  ((h1.trans h2).trans h2b).trans h3
abbrev m_fieldfarelaw7_QuantTurnttt_k (K : AV → AH → Prop) : KP := exP (fun (a : TE) (H : AH) => m_fieldfarelaw7_QuantTurntttt K (a 0) (a 1) (a 2) H) (m_fieldfarelaw7_QuantTurn_K K)
def m_fieldfarelaw7_QuantTurnttt (K : AV → AH → Prop) (x0 x1 x2 : AV) (H : AH) : Prop :=
  outP CC H (some (.enter 11 [x0])) fun v1 H1 =>
  m_fieldfarelaw7_QuantTurntttt K v1 x1 x2 H1
theorem m_fieldfarelaw7_QuantTurnttt_eq (K : AV → AH → Prop) (a : TE) (H : AH) : codeP PP CC (subC (bodyC PP 7) [1, 1, 1]) (m_fieldfarelaw7_QuantTurn_K K) a H = m_fieldfarelaw7_QuantTurnttt K (a 0) (a 1) (a 2) H :=
  have h1 : codeP PP CC (subC (bodyC PP 7) [1, 1, 1]) (m_fieldfarelaw7_QuantTurn_K K) a H = codeP PP CC (subC (bodyC PP 7) [1, 1, 1, 0]) (exP (codeP PP CC (subC (bodyC PP 7) [1, 1, 1, 1]) (m_fieldfarelaw7_QuantTurn_K K)) (m_fieldfarelaw7_QuantTurn_K K)) a H := by kernel_rfl
  have h2 : codeP PP CC (subC (bodyC PP 7) [1, 1, 1, 0]) (exP (codeP PP CC (subC (bodyC PP 7) [1, 1, 1, 1]) (m_fieldfarelaw7_QuantTurn_K K)) (m_fieldfarelaw7_QuantTurn_K K)) a H = codeP PP CC (subC (bodyC PP 7) [1, 1, 1, 0]) (exP (fun (a : TE) (H : AH) => m_fieldfarelaw7_QuantTurntttt K (a 0) (a 1) (a 2) H) (m_fieldfarelaw7_QuantTurn_K K)) a H := congrArg (fun k : KE => codeP PP CC (subC (bodyC PP 7) [1, 1, 1, 0]) (exP k (m_fieldfarelaw7_QuantTurn_K K)) a H) (funext fun a => funext fun H => m_fieldfarelaw7_QuantTurntttt_eq K a H)
  have h2b : codeP PP CC (subC (bodyC PP 7) [1, 1, 1, 0]) (exP (fun (a : TE) (H : AH) => m_fieldfarelaw7_QuantTurntttt K (a 0) (a 1) (a 2) H) (m_fieldfarelaw7_QuantTurn_K K)) a H = codeP PP CC (subC (bodyC PP 7) [1, 1, 1, 0]) (m_fieldfarelaw7_QuantTurnttt_k K) a H := by kernel_rfl
  have h3 : codeP PP CC (subC (bodyC PP 7) [1, 1, 1, 0]) (m_fieldfarelaw7_QuantTurnttt_k K) a H = m_fieldfarelaw7_QuantTurnttt K (a 0) (a 1) (a 2) H := by kernel_rfl
  ((h1.trans h2).trans h2b).trans h3
abbrev m_fieldfarelaw7_QuantTurntt_k (K : AV → AH → Prop) : KP := exP (fun (a : TE) (H : AH) => m_fieldfarelaw7_QuantTurnttt K (a 0) (a 1) (a 2) H) (m_fieldfarelaw7_QuantTurn_K K)
def m_fieldfarelaw7_QuantTurntt (K : AV → AH → Prop) (x0 x1 x2 x7 : AV) (H : AH) : Prop :=
  outP CC H (w_un .not H x7) fun v1 H1 =>
  condP v1
  (K (.bool false) H1)
  (m_fieldfarelaw7_QuantTurnttt K x0 x1 x2 H1)
theorem m_fieldfarelaw7_QuantTurntt_eq (K : AV → AH → Prop) (a : TE) (H : AH) : codeP PP CC (subC (bodyC PP 7) [1, 1]) (m_fieldfarelaw7_QuantTurn_K K) a H = m_fieldfarelaw7_QuantTurntt K (a 0) (a 1) (a 2) (a 7) H :=
  have h1 : codeP PP CC (subC (bodyC PP 7) [1, 1]) (m_fieldfarelaw7_QuantTurn_K K) a H = codeP PP CC (subC (bodyC PP 7) [1, 1, 0]) (exP (codeP PP CC (subC (bodyC PP 7) [1, 1, 1]) (m_fieldfarelaw7_QuantTurn_K K)) (m_fieldfarelaw7_QuantTurn_K K)) a H := by kernel_rfl
  have h2 : codeP PP CC (subC (bodyC PP 7) [1, 1, 0]) (exP (codeP PP CC (subC (bodyC PP 7) [1, 1, 1]) (m_fieldfarelaw7_QuantTurn_K K)) (m_fieldfarelaw7_QuantTurn_K K)) a H = codeP PP CC (subC (bodyC PP 7) [1, 1, 0]) (exP (fun (a : TE) (H : AH) => m_fieldfarelaw7_QuantTurnttt K (a 0) (a 1) (a 2) H) (m_fieldfarelaw7_QuantTurn_K K)) a H := congrArg (fun k : KE => codeP PP CC (subC (bodyC PP 7) [1, 1, 0]) (exP k (m_fieldfarelaw7_QuantTurn_K K)) a H) (funext fun a => funext fun H => m_fieldfarelaw7_QuantTurnttt_eq K a H)
  have h2b : codeP PP CC (subC (bodyC PP 7) [1, 1, 0]) (exP (fun (a : TE) (H : AH) => m_fieldfarelaw7_QuantTurnttt K (a 0) (a 1) (a 2) H) (m_fieldfarelaw7_QuantTurn_K K)) a H = codeP PP CC (subC (bodyC PP 7) [1, 1, 0]) (m_fieldfarelaw7_QuantTurntt_k K) a H := by kernel_rfl
  have h3 : codeP PP CC (subC (bodyC PP 7) [1, 1, 0]) (m_fieldfarelaw7_QuantTurntt_k K) a H = m_fieldfarelaw7_QuantTurntt K (a 0) (a 1) (a 2) (a 7) H := by kernel_rfl
  ((h1.trans h2).trans h2b).trans h3
abbrev m_fieldfarelaw7_QuantTurnt_k (K : AV → AH → Prop) : KP := exP (fun (a : TE) (H : AH) => m_fieldfarelaw7_QuantTurntt K (a 0) (a 1) (a 2) (a 7) H) (m_fieldfarelaw7_QuantTurn_K K)
def m_fieldfarelaw7_QuantTurnt (K : AV → AH → Prop) (x0 x1 x2 : AV) (H : AH) : Prop :=
  outP CC H (some (.enter 10 [])) fun v1 H1 =>
  m_fieldfarelaw7_QuantTurntt K x0 x1 x2 v1 H1
theorem m_fieldfarelaw7_QuantTurnt_eq (K : AV → AH → Prop) (a : TE) (H : AH) : codeP PP CC (subC (bodyC PP 7) [1]) (m_fieldfarelaw7_QuantTurn_K K) a H = m_fieldfarelaw7_QuantTurnt K (a 0) (a 1) (a 2) H :=
  have h1 : codeP PP CC (subC (bodyC PP 7) [1]) (m_fieldfarelaw7_QuantTurn_K K) a H = codeP PP CC (subC (bodyC PP 7) [1, 0]) (exP (codeP PP CC (subC (bodyC PP 7) [1, 1]) (m_fieldfarelaw7_QuantTurn_K K)) (m_fieldfarelaw7_QuantTurn_K K)) a H := by kernel_rfl
  have h2 : codeP PP CC (subC (bodyC PP 7) [1, 0]) (exP (codeP PP CC (subC (bodyC PP 7) [1, 1]) (m_fieldfarelaw7_QuantTurn_K K)) (m_fieldfarelaw7_QuantTurn_K K)) a H = codeP PP CC (subC (bodyC PP 7) [1, 0]) (exP (fun (a : TE) (H : AH) => m_fieldfarelaw7_QuantTurntt K (a 0) (a 1) (a 2) (a 7) H) (m_fieldfarelaw7_QuantTurn_K K)) a H := congrArg (fun k : KE => codeP PP CC (subC (bodyC PP 7) [1, 0]) (exP k (m_fieldfarelaw7_QuantTurn_K K)) a H) (funext fun a => funext fun H => m_fieldfarelaw7_QuantTurntt_eq K a H)
  have h2b : codeP PP CC (subC (bodyC PP 7) [1, 0]) (exP (fun (a : TE) (H : AH) => m_fieldfarelaw7_QuantTurntt K (a 0) (a 1) (a 2) (a 7) H) (m_fieldfarelaw7_QuantTurn_K K)) a H = codeP PP CC (subC (bodyC PP 7) [1, 0]) (m_fieldfarelaw7_QuantTurnt_k K) a H := by kernel_rfl
  have h3 : codeP PP CC (subC (bodyC PP 7) [1, 0]) (m_fieldfarelaw7_QuantTurnt_k K) a H = m_fieldfarelaw7_QuantTurnt K (a 0) (a 1) (a 2) H := by kernel_rfl
  ((h1.trans h2).trans h2b).trans h3
abbrev m_fieldfarelaw7_QuantTurn_k (K : AV → AH → Prop) : KP := exP (fun (a : TE) (H : AH) => m_fieldfarelaw7_QuantTurnt K (a 0) (a 1) (a 2) H) (m_fieldfarelaw7_QuantTurn_K K)
def m_fieldfarelaw7_QuantTurn (K : AV → AH → Prop) (x0 x1 x2 : AV) (H : AH) : Prop :=
  m_fieldfarelaw7_QuantTurnt K x0 x1 x2 H
theorem m_fieldfarelaw7_QuantTurn_eq (K : AV → AH → Prop) (a : TE) (H : AH) : codeP PP CC (subC (bodyC PP 7) []) (m_fieldfarelaw7_QuantTurn_K K) a H = m_fieldfarelaw7_QuantTurn K (a 0) (a 1) (a 2) H :=
  have h1 : codeP PP CC (subC (bodyC PP 7) []) (m_fieldfarelaw7_QuantTurn_K K) a H = codeP PP CC (subC (bodyC PP 7) [0]) (exP (codeP PP CC (subC (bodyC PP 7) [1]) (m_fieldfarelaw7_QuantTurn_K K)) (m_fieldfarelaw7_QuantTurn_K K)) a H := by kernel_rfl
  have h2 : codeP PP CC (subC (bodyC PP 7) [0]) (exP (codeP PP CC (subC (bodyC PP 7) [1]) (m_fieldfarelaw7_QuantTurn_K K)) (m_fieldfarelaw7_QuantTurn_K K)) a H = codeP PP CC (subC (bodyC PP 7) [0]) (exP (fun (a : TE) (H : AH) => m_fieldfarelaw7_QuantTurnt K (a 0) (a 1) (a 2) H) (m_fieldfarelaw7_QuantTurn_K K)) a H := congrArg (fun k : KE => codeP PP CC (subC (bodyC PP 7) [0]) (exP k (m_fieldfarelaw7_QuantTurn_K K)) a H) (funext fun a => funext fun H => m_fieldfarelaw7_QuantTurnt_eq K a H)
  have h2b : codeP PP CC (subC (bodyC PP 7) [0]) (exP (fun (a : TE) (H : AH) => m_fieldfarelaw7_QuantTurnt K (a 0) (a 1) (a 2) H) (m_fieldfarelaw7_QuantTurn_K K)) a H = codeP PP CC (subC (bodyC PP 7) [0]) (m_fieldfarelaw7_QuantTurn_k K) a H := by kernel_rfl
  have h3 : codeP PP CC (subC (bodyC PP 7) [0]) (m_fieldfarelaw7_QuantTurn_k K) a H = m_fieldfarelaw7_QuantTurn K (a 0) (a 1) (a 2) H := by kernel_rfl
  ((h1.trans h2).trans h2b).trans h3
theorem m_fieldfarelaw7_QuantTurn_ok (x0 x1 x2 : AV) (H : AH) (K : AV → AH → Prop) (h : m_fieldfarelaw7_QuantTurn K x0 x1 x2 H) : CC.call 7 [x0, x1, x2] H K :=
  have h1 : funP PP CC 7 [x0, x1, x2] H K = codeP PP CC (subC (bodyC PP 7) []) (m_fieldfarelaw7_QuantTurn_K K) (argE [x0, x1, x2]) H := by kernel_rfl
  have h2 : m_fieldfarelaw7_QuantTurn K (argE [x0, x1, x2] 0) (argE [x0, x1, x2] 1) (argE [x0, x1, x2] 2) H = m_fieldfarelaw7_QuantTurn K x0 x1 x2 H := by kernel_rfl
  funP_ok (P := PP) (by kernel_rfl) (by kernel_rfl) ((h1.trans ((m_fieldfarelaw7_QuantTurn_eq K (argE [x0, x1, x2]) H).trans h2)).mpr h)

end
end Go.Ab
