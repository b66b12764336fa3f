/- What functions do, said as what the evaluator does. Printed by a program. -/
import Derived.Test.YtapkhdlohcbcmaaGreatDoorBeg
import Derived.Test.YtapkhdlohcbcmaaGreatDoorEv3
namespace Go.Ab
noncomputable section
open Go.Proofs
set_option maxRecDepth 100000



/-! 6: fieldfare/fieldfarelaw7.QuantOrder -/
abbrev m_fieldfarelaw7_QuantOrder_K (K : AV → AH → Prop) : KP := finP PP (resC PP 6) K
abbrev m_fieldfarelaw7_QuantOrdertttttttt_k (K : AV → AH → Prop) : KP := exP (codeP PP CC (subC (bodyC PP 6) [1, 1, 1, 1, 1, 1, 1, 1, 1]) (m_fieldfarelaw7_QuantOrder_K K)) (m_fieldfarelaw7_QuantOrder_K K)
abbrev m_fieldfarelaw7_QuantOrderttttttttht_k (K : AV → AH → Prop) : KP := blockP 0 (m_fieldfarelaw7_QuantOrdertttttttt_k K)
abbrev m_fieldfarelaw7_QuantOrdertttttttthtb_k (K : AV → AH → Prop) (r0 : (AV × AV × AV × AV × AV × AV) → AH → Prop) : KP := exP (fun (a : TE) (H : AH) => r0 (a 2, a 3, a 11, a 12, a 47, a 48) H) (m_fieldfarelaw7_QuantOrderttttttttht_k K)
def m_fieldfarelaw7_QuantOrdertttttttthtbl (K : AV → AH → Prop) (r0 : (AV × AV × AV × AV × AV × AV) → AH → Prop) (x2 x3 x11 x12 x47 x48 : AV) (H : AH) : Prop :=
  outP CC H (w_int .lss H x48 x47) fun v1 H1 =>
  condP v1
  (outP CC H1 (w_indexAddr (.sl 1) H1 x2 x48) fun v2 H2 =>
  outP CC H2 (w_load none H2 v2) fun v3 H3 =>
  outP CC H3 (w_indexAddr (.sl 1) H3 x3 x48) fun v4 H4 =>
  outP CC H4 (w_load none H4 v4) fun v5 H5 =>
  outP CC H5 (w_int .leq H5 v3 v5) fun v6 H6 =>
  guardP (boolIs true v6) H6 (outP CC H6 (some (.val x11 H6))) fun v7 H7 =>
  guardP (boolIs true v6) H7 (outP CC H7 (some (.val x48 H7))) fun v8 H8 =>
  guardP (boolIs true v6) H8 (outP CC H8 (w_indexAddr (.sl 1) H8 v7 v8)) fun v9 H9 =>
  guardP (boolIs true v6) H9 (outP CC H9 (w_load none H9 v9)) fun v10 H10 =>
  guardP (boolIs true v6) H10 (outP CC H10 (some (.val x12 H10))) fun v11 H11 =>
  guardP (boolIs true v6) H11 (outP CC H11 (some (.val x48 H11))) fun v12 H12 =>
  guardP (boolIs true v6) H12 (outP CC H12 (w_indexAddr (.sl 1) H12 v11 v12)) fun v13 H13 =>
  guardP (boolIs true v6) H13 (outP CC H13 (w_load none H13 v13)) fun v14 H14 =>
  guardP (boolIs true v6) H14 (outP CC H14 (w_int .gtr H14 v10 v14)) fun v15 H15 =>
  outP CC H15 (w_pick H15 v6 v15 (.bool false)) fun v16 H16 =>
  guardP (boolIs false v16) H16 (outP CC H16 (some (.val x2 H16))) fun v17 H17 =>
  guardP (boolIs false v16) H17 (outP CC H17 (some (.val x48 H17))) fun v18 H18 =>
  guardP (boolIs false v16) H18 (outP CC H18 (w_indexAddr (.sl 1) H18 v17 v18)) fun v19 H19 =>
  guardP (boolIs false v16) H19 (outP CC H19 (w_load none H19 v19)) fun v20 H20 =>
  guardP (boolIs false v16) H20 (outP CC H20 (some (.val x3 H20))) fun v21 H21 =>
  guardP (boolIs false v16) H21 (outP CC H21 (some (.val x48 H21))) fun v22 H22 =>
  guardP (boolIs false v16) H22 (outP CC H22 (w_indexAddr (.sl 1) H22 v21 v22)) fun v23 H23 =>
  guardP (boolIs false v16) H23 (outP CC H23 (w_load none H23 v23)) fun v24 H24 =>
  guardP (boolIs false v16) H24 (outP CC H24 (w_int .geq H24 v20 v24)) fun v25 H25 =>
  guardP (boolIs false v16) H25 (outP CC H25 (some (.val v25 H25))) fun v26 H26 =>
  guardP (boolIs true v26) H26 (outP CC H26 (some (.val x11 H26))) fun v27 H27 =>
  guardP (boolIs true v26) H27 (outP CC H27 (some (.val x48 H27))) fun v28 H28 =>
  guardP (boolIs true v26) H28 (outP CC H28 (w_indexAddr (.sl 1) H28 v27 v28)) fun v29 H29 =>
  guardP (boolIs true v26) H29 (outP CC H29 (w_load none H29 v29)) fun v30 H30 =>
  guardP (boolIs true v26) H30 (outP CC H30 (some (.val x12 H30))) fun v31 H31 =>
  guardP (boolIs true v26) H31 (outP CC H31 (some (.val x48 H31))) fun v32 H32 =>
  guardP (boolIs true v26) H32 (outP CC H32 (w_indexAddr (.sl 1) H32 v31 v32)) fun v33 H33 =>
  guardP (boolIs true v26) H33 (outP CC H33 (w_load none H33 v33)) fun v34 H34 =>
  guardP (boolIs true v26) H34 (outP CC H34 (w_int .lss H34 v30 v34)) fun v35 H35 =>
  guardP (boolIs false v16) H35 (outP CC H35 (w_pick H35 v26 v35 (.bool false))) fun v36 H36 =>
  outP CC H36 (w_pick H36 v16 (.bool true) v36) fun v37 H37 =>
  condP v37
  (K (.bool false) H37)
  (outP CC H37 (w_int .add H37 x48 (.int .i64 1)) fun v38 H38 =>
  r0 (x2, x3, x11, x12, x47, v38) H38))
  (K (.bool true) H1)
theorem m_fieldfarelaw7_QuantOrdertttttttthtbl_eq (K : AV → AH → Prop) (r0 : (AV × AV × AV × AV × AV × AV) → AH → Prop) (a : TE) (H : AH) : codeP PP CC (subC (bodyC PP 6) [1, 1, 1, 1, 1, 1, 1, 1, 0, 1, 0, 0]) (m_fieldfarelaw7_QuantOrdertttttttthtb_k K r0) a H = m_fieldfarelaw7_QuantOrdertttttttthtbl K r0 (a 2) (a 3) (a 11) (a 12) (a 47) (a 48) H :=
  by kernel_rfl
def m_fieldfarelaw7_QuantOrdertttttttthtb (K : AV → AH → Prop) (x2 x3 x11 x12 x47 x48 : AV) (H : AH) : Prop :=
  loopP (fun (r0 : (AV × AV × AV × AV × AV × AV) → AH → Prop) (s : (AV × AV × AV × AV × AV × AV)) (H : AH) => m_fieldfarelaw7_QuantOrdertttttttthtbl K r0 s.1 s.2.1 s.2.2.1 s.2.2.2.1 s.2.2.2.2.1 s.2.2.2.2.2 H) (x2, x3, x11, x12, x47, x48) H
theorem m_fieldfarelaw7_QuantOrdertttttttthtb_eq (K : AV → AH → Prop) (a : TE) (H : AH) : codeP PP CC (subC (bodyC PP 6) [1, 1, 1, 1, 1, 1, 1, 1, 0, 1, 0]) (m_fieldfarelaw7_QuantOrderttttttttht_k K) a H = m_fieldfarelaw7_QuantOrdertttttttthtb K (a 2) (a 3) (a 11) (a 12) (a 47) (a 48) H :=
  have h1 : codeP PP CC (subC (bodyC PP 6) [1, 1, 1, 1, 1, 1, 1, 1, 0, 1, 0]) (m_fieldfarelaw7_QuantOrderttttttttht_k K) a H = loopP (fun (rec : KE) => codeP PP CC (subC (bodyC PP 6) [1, 1, 1, 1, 1, 1, 1, 1, 0, 1, 0, 0]) (exP rec (m_fieldfarelaw7_QuantOrderttttttttht_k K))) a H := by kernel_rfl
  have h2 := loopP_iso (F := fun (rec : KE) => codeP PP CC (subC (bodyC PP 6) [1, 1, 1, 1, 1, 1, 1, 1, 0, 1, 0, 0]) (exP rec (m_fieldfarelaw7_QuantOrderttttttttht_k K))) (S := (AV × AV × AV × AV × AV × AV)) (fun a => (a 2, a 3, a 11, a 12, a 47, a 48)) (fun (r0 : (AV × AV × AV × AV × AV × AV) → AH → Prop) (s : (AV × AV × AV × AV × AV × AV)) (H : AH) => m_fieldfarelaw7_QuantOrdertttttttthtbl K r0 s.1 s.2.1 s.2.2.1 s.2.2.2.1 s.2.2.2.2.1 s.2.2.2.2.2 H) (fun (r0 : (AV × AV × AV × AV × AV × AV) → AH → Prop) (a : TE) (H : AH) => (show codeP PP CC (subC (bodyC PP 6) [1, 1, 1, 1, 1, 1, 1, 1, 0, 1, 0, 0]) (exP (fun (a : TE) (H : AH) => r0 (a 2, a 3, a 11, a 12, a 47, a 48) H) (m_fieldfarelaw7_QuantOrderttttttttht_k K)) a H = codeP PP CC (subC (bodyC PP 6) [1, 1, 1, 1, 1, 1, 1, 1, 0, 1, 0, 0]) (m_fieldfarelaw7_QuantOrdertttttttthtb_k K r0) a H from by kernel_rfl).trans (m_fieldfarelaw7_QuantOrdertttttttthtbl_eq K r0 a H)) a H
  h1.trans h2
theorem m_fieldfarelaw7_QuantOrderttttttttht_eq (K : AV → AH → Prop) (a : TE) (H : AH) : codeP PP CC (subC (bodyC PP 6) [1, 1, 1, 1, 1, 1, 1, 1, 0, 1]) (m_fieldfarelaw7_QuantOrdertttttttt_k K) a H = m_fieldfarelaw7_QuantOrdertttttttthtb K (a 2) (a 3) (a 11) (a 12) (a 47) (a 48) H :=
  have h1 : codeP PP CC (subC (bodyC PP 6) [1, 1, 1, 1, 1, 1, 1, 1, 0, 1]) (m_fieldfarelaw7_QuantOrdertttttttt_k K) a H = codeP PP CC (subC (bodyC PP 6) [1, 1, 1, 1, 1, 1, 1, 1, 0, 1, 0]) (m_fieldfarelaw7_QuantOrderttttttttht_k K) a H := by kernel_rfl
  h1.trans (m_fieldfarelaw7_QuantOrdertttttttthtb_eq K a H)
abbrev m_fieldfarelaw7_QuantOrdertttttttth_k (K : AV → AH → Prop) : KP := exP (fun (a : TE) (H : AH) => m_fieldfarelaw7_QuantOrdertttttttthtb K (a 2) (a 3) (a 11) (a 12) (a 47) (a 48) H) (m_fieldfarelaw7_QuantOrdertttttttt_k K)
def m_fieldfarelaw7_QuantOrdertttttttth (K : AV → AH → Prop) (x2 x3 x11 x12 : AV) (H : AH) : Prop :=
  outP CC H (w_len PP 29 H x11) fun v1 H1 =>
  m_fieldfarelaw7_QuantOrdertttttttthtb K x2 x3 x11 x12 v1 (.int .i64 0) H1
theorem m_fieldfarelaw7_QuantOrdertttttttth_eq (K : AV → AH → Prop) (a : TE) (H : AH) : codeP PP CC (subC (bodyC PP 6) [1, 1, 1, 1, 1, 1, 1, 1, 0]) (m_fieldfarelaw7_QuantOrdertttttttt_k K) a H = m_fieldfarelaw7_QuantOrdertttttttth K (a 2) (a 3) (a 11) (a 12) H :=
  have h1 : codeP PP CC (subC (bodyC PP 6) [1, 1, 1, 1, 1, 1, 1, 1, 0]) (m_fieldfarelaw7_QuantOrdertttttttt_k K) a H = codeP PP CC (subC (bodyC PP 6) [1, 1, 1, 1, 1, 1, 1, 1, 0, 0]) (exP (codeP PP CC (subC (bodyC PP 6) [1, 1, 1, 1, 1, 1, 1, 1, 0, 1]) (m_fieldfarelaw7_QuantOrdertttttttt_k K)) (m_fieldfarelaw7_QuantOrdertttttttt_k K)) a H := by kernel_rfl
  have h2 : codeP PP CC (subC (bodyC PP 6) [1, 1, 1, 1, 1, 1, 1, 1, 0, 0]) (exP (codeP PP CC (subC (bodyC PP 6) [1, 1, 1, 1, 1, 1, 1, 1, 0, 1]) (m_fieldfarelaw7_QuantOrdertttttttt_k K)) (m_fieldfarelaw7_QuantOrdertttttttt_k K)) a H = codeP PP CC (subC (bodyC PP 6) [1, 1, 1, 1, 1, 1, 1, 1, 0, 0]) (exP (fun (a : TE) (H : AH) => m_fieldfarelaw7_QuantOrdertttttttthtb K (a 2) (a 3) (a 11) (a 12) (a 47) (a 48) H) (m_fieldfarelaw7_QuantOrdertttttttt_k K)) a H := congrArg (fun k : KE => codeP PP CC (subC (bodyC PP 6) [1, 1, 1, 1, 1, 1, 1, 1, 0, 0]) (exP k (m_fieldfarelaw7_QuantOrdertttttttt_k K)) a H) (funext fun a => funext fun H => m_fieldfarelaw7_QuantOrderttttttttht_eq K a H)
  have h2b : codeP PP CC (subC (bodyC PP 6) [1, 1, 1, 1, 1, 1, 1, 1, 0, 0]) (exP (fun (a : TE) (H : AH) => m_fieldfarelaw7_QuantOrdertttttttthtb K (a 2) (a 3) (a 11) (a 12) (a 47) (a 48) H) (m_fieldfarelaw7_QuantOrdertttttttt_k K)) a H = codeP PP CC (subC (bodyC PP 6) [1, 1, 1, 1, 1, 1, 1, 1, 0, 0]) (m_fieldfarelaw7_QuantOrdertttttttth_k K) a H := by kernel_rfl
  have h3 : codeP PP CC (subC (bodyC PP 6) [1, 1, 1, 1, 1, 1, 1, 1, 0, 0]) (m_fieldfarelaw7_QuantOrdertttttttth_k K) a H = m_fieldfarelaw7_QuantOrdertttttttth K (a 2) (a 3) (a 11) (a 12) H := by kernel_rfl
  ((h1.trans h2).trans h2b).trans h3
theorem m_fieldfarelaw7_QuantOrdertttttttt_eq (K : AV → AH → Prop) (a : TE) (H : AH) : codeP PP CC (subC (bodyC PP 6) [1, 1, 1, 1, 1, 1, 1, 1]) (m_fieldfarelaw7_QuantOrder_K K) a H = m_fieldfarelaw7_QuantOrdertttttttth K (a 2) (a 3) (a 11) (a 12) H :=
  have h1 : codeP PP CC (subC (bodyC PP 6) [1, 1, 1, 1, 1, 1, 1, 1]) (m_fieldfarelaw7_QuantOrder_K K) a H = codeP PP CC (subC (bodyC PP 6) [1, 1, 1, 1, 1, 1, 1, 1, 0]) (m_fieldfarelaw7_QuantOrdertttttttt_k K) a H := by kernel_rfl
  h1.trans (m_fieldfarelaw7_QuantOrdertttttttth_eq K a H)
abbrev m_fieldfarelaw7_QuantOrderttttttt_k (K : AV → AH → Prop) : KP := exP (fun (a : TE) (H : AH) => m_fieldfarelaw7_QuantOrdertttttttth K (a 2) (a 3) (a 11) (a 12) H) (m_fieldfarelaw7_QuantOrder_K K)
def m_fieldfarelaw7_QuantOrderttttttt (K : AV → AH → Prop) (x0 x2 x3 x11 x12 : AV) (H : AH) : Prop :=
  outP CC H (w_len PP 29 H x11) fun v1 H1 =>
  outP CC H1 (w_int .neq H1 v1 x0) fun v2 H2 =>
  guardP (boolIs false v2) H2 (outP CC H2 (some (.val x12 H2))) fun v3 H3 =>
  guardP (boolIs false v2) H3 (outP CC H3 (w_len PP 29 H3 v3)) fun v4 H4 =>
  guardP (boolIs false v2) H4 (outP CC H4 (some (.val x0 H4))) fun v5 H5 =>
  guardP (boolIs false v2) H5 (outP CC H5 (w_int .neq H5 v4 v5)) fun v6 H6 =>
  outP CC H6 (w_pick H6 v2 (.bool true) v6) fun v7 H7 =>
  condP v7
  (K (.bool false) H7)
  (m_fieldfarelaw7_QuantOrdertttttttth K x2 x3 x11 x12 H7)
theorem m_fieldfarelaw7_QuantOrderttttttt_eq (K : AV → AH → Prop) (a : TE) (H : AH) : codeP PP CC (subC (bodyC PP 6) [1, 1, 1, 1, 1, 1, 1]) (m_fieldfarelaw7_QuantOrder_K K) a H = m_fieldfarelaw7_QuantOrderttttttt K (a 0) (a 2) (a 3) (a 11) (a 12) H :=
  have h1 : codeP PP CC (subC (bodyC PP 6) [1, 1, 1, 1, 1, 1, 1]) (m_fieldfarelaw7_QuantOrder_K K) a H = codeP PP CC (subC (bodyC PP 6) [1, 1, 1, 1, 1, 1, 1, 0]) (exP (codeP PP CC (subC (bodyC PP 6) [1, 1, 1, 1, 1, 1, 1, 1]) (m_fieldfarelaw7_QuantOrder_K K)) (m_fieldfarelaw7_QuantOrder_K K)) a H := by kernel_rfl
  have h2 : codeP PP CC (subC (bodyC PP 6) [1, 1, 1, 1, 1, 1, 1, 0]) (exP (codeP PP CC (subC (bodyC PP 6) [1, 1, 1, 1, 1, 1, 1, 1]) (m_fieldfarelaw7_QuantOrder_K K)) (m_fieldfarelaw7_QuantOrder_K K)) a H = codeP PP CC (subC (bodyC PP 6) [1, 1, 1, 1, 1, 1, 1, 0]) (exP (fun (a : TE) (H : AH) => m_fieldfarelaw7_QuantOrdertttttttth K (a 2) (a 3) (a 11) (a 12) H) (m_fieldfarelaw7_QuantOrder_K K)) a H := congrArg (fun k : KE => codeP PP CC (subC (bodyC PP 6) [1, 1, 1, 1, 1, 1, 1, 0]) (exP k (m_fieldfarelaw7_QuantOrder_K K)) a H) (funext fun a => funext fun H => m_fieldfarelaw7_QuantOrdertttttttt_eq K a H)
  have h2b : codeP PP CC (subC (bodyC PP 6) [1, 1, 1, 1, 1, 1, 1, 0]) (exP (fun (a : TE) (H : AH) => m_fieldfarelaw7_QuantOrdertttttttth K (a 2) (a 3) (a 11) (a 12) H) (m_fieldfarelaw7_QuantOrder_K K)) a H = codeP PP CC (subC (bodyC PP 6) [1, 1, 1, 1, 1, 1, 1, 0]) (m_fieldfarelaw7_QuantOrderttttttt_k K) a H := by kernel_rfl
  have h3 : codeP PP CC (subC (bodyC PP 6) [1, 1, 1, 1, 1, 1, 1, 0]) (m_fieldfarelaw7_QuantOrderttttttt_k K) a H = m_fieldfarelaw7_QuantOrderttttttt K (a 0) (a 2) (a 3) (a 11) (a 12) H := by kernel_rfl
  ((h1.trans h2).trans h2b).trans h3
abbrev m_fieldfarelaw7_QuantOrdertttttt_k (K : AV → AH → Prop) : KP := exP (fun (a : TE) (H : AH) => m_fieldfarelaw7_QuantOrderttttttt K (a 0) (a 2) (a 3) (a 11) (a 12) H) (m_fieldfarelaw7_QuantOrder_K K)
def m_fieldfarelaw7_QuantOrdertttttt (K : AV → AH → Prop) (x0 x2 x3 x10 : AV) (H : AH) : Prop :=
  outP CC H (w_load (some 2) H x10) fun v1 H1 =>
  outP CC H1 (w_load (some 2) H1 x10) fun v2 H2 =>
  outP CC H2 (some (.enter 25 [v1, x2])) fun v3 H3 =>
  ckP (reC true (w_load (some 2) H3 x10) v2) <|
  outP CC H3 (some (.enter 25 [v2, x3])) fun v4 H4 =>
  m_fieldfarelaw7_QuantOrderttttttt K x0 x2 x3 v3 v4 H4
theorem m_fieldfarelaw7_QuantOrdertttttt_eq (K : AV → AH → Prop) (a : TE) (H : AH) : codeP PP CC (subC (bodyC PP 6) [1, 1, 1, 1, 1, 1]) (m_fieldfarelaw7_QuantOrder_K K) a H = m_fieldfarelaw7_QuantOrdertttttt K (a 0) (a 2) (a 3) (a 10) H :=
  have h1 : codeP PP CC (subC (bodyC PP 6) [1, 1, 1, 1, 1, 1]) (m_fieldfarelaw7_QuantOrder_K K) a H = codeP PP CC (subC (bodyC PP 6) [1, 1, 1, 1, 1, 1, 0]) (exP (codeP PP CC (subC (bodyC PP 6) [1, 1, 1, 1, 1, 1, 1]) (m_fieldfarelaw7_QuantOrder_K K)) (m_fieldfarelaw7_QuantOrder_K K)) a H := by kernel_rfl
  have h2 : codeP PP CC (subC (bodyC PP 6) [1, 1, 1, 1, 1, 1, 0]) (exP (codeP PP CC (subC (bodyC PP 6) [1, 1, 1, 1, 1, 1, 1]) (m_fieldfarelaw7_QuantOrder_K K)) (m_fieldfarelaw7_QuantOrder_K K)) a H = codeP PP CC (subC (bodyC PP 6) [1, 1, 1, 1, 1, 1, 0]) (exP (fun (a : TE) (H : AH) => m_fieldfarelaw7_QuantOrderttttttt K (a 0) (a 2) (a 3) (a 11) (a 12) H) (m_fieldfarelaw7_QuantOrder_K K)) a H := congrArg (fun k : KE => codeP PP CC (subC (bodyC PP 6) [1, 1, 1, 1, 1, 1, 0]) (exP k (m_fieldfarelaw7_QuantOrder_K K)) a H) (funext fun a => funext fun H => m_fieldfarelaw7_QuantOrderttttttt_eq K a H)
  have h2b : codeP PP CC (subC (bodyC PP 6) [1, 1, 1, 1, 1, 1, 0]) (exP (fun (a : TE) (H : AH) => m_fieldfarelaw7_QuantOrderttttttt K (a 0) (a 2) (a 3) (a 11) (a 12) H) (m_fieldfarelaw7_QuantOrder_K K)) a H = codeP PP CC (subC (bodyC PP 6) [1, 1, 1, 1, 1, 1, 0]) (m_fieldfarelaw7_QuantOrdertttttt_k K) a H := by kernel_rfl
  have h3 : codeP PP CC (subC (bodyC PP 6) [1, 1, 1, 1, 1, 1, 0]) (m_fieldfarelaw7_QuantOrdertttttt_k K) a H = m_fieldfarelaw7_QuantOrdertttttt K (a 0) (a 2) (a 3) (a 10) H := by kernel_rfl
  ((h1.trans h2).trans h2b).trans h3
abbrev m_fieldfarelaw7_QuantOrderttttt_k (K : AV → AH → Prop) : KP := exP (fun (a : TE) (H : AH) => m_fieldfarelaw7_QuantOrdertttttt K (a 0) (a 2) (a 3) (a 10) H) (m_fieldfarelaw7_QuantOrder_K K)
def m_fieldfarelaw7_QuantOrderttttt (K : AV → AH → Prop) (x0 x2 x3 x10 : AV) (H : AH) : Prop :=
  outP CC H (some (.enter 24 [x2, x0])) fun v1 H1 =>
  outP CC H1 (some (.enter 24 [x3, x0])) fun v2 H2 =>
  m_fieldfarelaw7_QuantOrdertttttt K x0 v1 v2 x10 H2
theorem m_fieldfarelaw7_QuantOrderttttt_eq (K : AV → AH → Prop) (a : TE) (H : AH) : codeP PP CC (subC (bodyC PP 6) [1, 1, 1, 1, 1]) (m_fieldfarelaw7_QuantOrder_K K) a H = m_fieldfarelaw7_QuantOrderttttt K (a 0) (a 2) (a 3) (a 10) H :=
  have h1 : codeP PP CC (subC (bodyC PP 6) [1, 1, 1, 1, 1]) (m_fieldfarelaw7_QuantOrder_K K) a H = codeP PP CC (subC (bodyC PP 6) [1, 1, 1, 1, 1, 0]) (exP (codeP PP CC (subC (bodyC PP 6) [1, 1, 1, 1, 1, 1]) (m_fieldfarelaw7_QuantOrder_K K)) (m_fieldfarelaw7_QuantOrder_K K)) a H := by kernel_rfl
  have h2 : codeP PP CC (subC (bodyC PP 6) [1, 1, 1, 1, 1, 0]) (exP (codeP PP CC (subC (bodyC PP 6) [1, 1, 1, 1, 1, 1]) (m_fieldfarelaw7_QuantOrder_K K)) (m_fieldfarelaw7_QuantOrder_K K)) a H = codeP PP CC (subC (bodyC PP 6) [1, 1, 1, 1, 1, 0]) (exP (fun (a : TE) (H : AH) => m_fieldfarelaw7_QuantOrdertttttt K (a 0) (a 2) (a 3) (a 10) H) (m_fieldfarelaw7_QuantOrder_K K)) a H := congrArg (fun k : KE => codeP PP CC (subC (bodyC PP 6) [1, 1, 1, 1, 1, 0]) (exP k (m_fieldfarelaw7_QuantOrder_K K)) a H) (funext fun a => funext fun H => m_fieldfarelaw7_QuantOrdertttttt_eq K a H)
  have h2b : codeP PP CC (subC (bodyC PP 6) [1, 1, 1, 1, 1, 0]) (exP (fun (a : TE) (H : AH) => m_fieldfarelaw7_QuantOrdertttttt K (a 0) (a 2) (a 3) (a 10) H) (m_fieldfarelaw7_QuantOrder_K K)) a H = codeP PP CC (subC (bodyC PP 6) [1, 1, 1, 1, 1, 0]) (m_fieldfarelaw7_QuantOrderttttt_k K) a H := by kernel_rfl
  have h3 : codeP PP CC (subC (bodyC PP 6) [1, 1, 1, 1, 1, 0]) (m_fieldfarelaw7_QuantOrderttttt_k K) a H = m_fieldfarelaw7_QuantOrderttttt K (a 0) (a 2) (a 3) (a 10) H := by kernel_rfl
  ((h1.trans h2).trans h2b).trans h3
abbrev m_fieldfarelaw7_QuantOrdertttt_k (K : AV → AH → Prop) : KP := exP (fun (a : TE) (H : AH) => m_fieldfarelaw7_QuantOrderttttt K (a 0) (a 2) (a 3) (a 10) H) (m_fieldfarelaw7_QuantOrder_K K)
def m_fieldfarelaw7_QuantOrdertttt (K : AV → AH → Prop) (x0 x1 x2 x3 : AV) (H : AH) : Prop :=
  outP CC H (some (.enter 23 [x1, x0, (.int .i64 10)])) fun v1 H1 =>
  outP CC H1 (some (.enter 22 [x0, v1])) fun v2 H2 =>
  outP CC H2 (w_alloc 47 [(.slice none 0 0 true), (.slice none 0 0 true)] H2 none) fun v3 H3 =>
  outP CC H3 (w_store 2 H3 v3 v2) fun _v4 H4 =>
  m_fieldfarelaw7_QuantOrderttttt K x0 x2 x3 v3 H4
theorem m_fieldfarelaw7_QuantOrdertttt_eq (K : AV → AH → Prop) (a : TE) (H : AH) : codeP PP CC (subC (bodyC PP 6) [1, 1, 1, 1]) (m_fieldfarelaw7_QuantOrder_K K) a H = m_fieldfarelaw7_QuantOrdertttt K (a 0) (a 1) (a 2) (a 3) H :=
  have h1 : codeP PP CC (subC (bodyC PP 6) [1, 1, 1, 1]) (m_fieldfarelaw7_QuantOrder_K K) a H = codeP PP CC (subC (bodyC PP 6) [1, 1, 1, 1, 0]) (exP (codeP PP CC (subC (bodyC PP 6) [1, 1, 1, 1, 1]) (m_fieldfarelaw7_QuantOrder_K K)) (m_fieldfarelaw7_QuantOrder_K K)) a H := by kernel_rfl
  have h2 : codeP PP CC (subC (bodyC PP 6) [1, 1, 1, 1, 0]) (exP (codeP PP CC (subC (bodyC PP 6) [1, 1, 1, 1, 1]) (m_fieldfarelaw7_QuantOrder_K K)) (m_fieldfarelaw7_QuantOrder_K K)) a H = codeP PP CC (subC (bodyC PP 6) [1, 1, 1, 1, 0]) (exP (fun (a : TE) (H : AH) => m_fieldfarelaw7_QuantOrderttttt K (a 0) (a 2) (a 3) (a 10) H) (m_fieldfarelaw7_QuantOrder_K K)) a H := congrArg (fun k : KE => codeP PP CC (subC (bodyC PP 6) [1, 1, 1, 1, 0]) (exP k (m_fieldfarelaw7_QuantOrder_K K)) a H) (funext fun a => funext fun H => m_fieldfarelaw7_QuantOrderttttt_eq K a H)
  have h2b : codeP PP CC (subC (bodyC PP 6) [1, 1, 1, 1, 0]) (exP (fun (a : TE) (H : AH) => m_fieldfarelaw7_QuantOrderttttt K (a 0) (a 2) (a 3) (a 10) H) (m_fieldfarelaw7_QuantOrder_K K)) a H = codeP PP CC (subC (bodyC PP 6) [1, 1, 1, 1, 0]) (m_fieldfarelaw7_QuantOrdertttt_k K) a H := by kernel_rfl
  have h3 : codeP PP CC (subC (bodyC PP 6) [1, 1, 1, 1, 0]) (m_fieldfarelaw7_QuantOrdertttt_k K) a H = m_fieldfarelaw7_QuantOrdertttt K (a 0) (a 1) (a 2) (a 3) H := by kernel_rfl
  ((h1.trans h2).trans h2b).trans h3
abbrev m_fieldfarelaw7_QuantOrderttt_k (K : AV → AH → Prop) : KP := exP (fun (a : TE) (H : AH) => m_fieldfarelaw7_QuantOrdertttt K (a 0) (a 1) (a 2) (a 3) H) (m_fieldfarelaw7_QuantOrder_K K)
def m_fieldfarelaw7_QuantOrderttt (K : AV → AH → Prop) (x0 x1 x2 x3 : AV) (H : AH) : Prop :=
  outP CC H (some (.enter 11 [x0])) fun v1 H1 =>
  m_fieldfarelaw7_QuantOrdertttt K v1 x1 x2 x3 H1
theorem m_fieldfarelaw7_QuantOrderttt_eq (K : AV → AH → Prop) (a : TE) (H : AH) : codeP PP CC (subC (bodyC PP 6) [1, 1, 1]) (m_fieldfarelaw7_QuantOrder_K K) a H = m_fieldfarelaw7_QuantOrderttt K (a 0) (a 1) (a 2) (a 3) H :=
  have h1 : codeP PP CC (subC (bodyC PP 6) [1, 1, 1]) (m_fieldfarelaw7_QuantOrder_K K) a H = codeP PP CC (subC (bodyC PP 6) [1, 1, 1, 0]) (exP (codeP PP CC (subC (bodyC PP 6) [1, 1, 1, 1]) (m_fieldfarelaw7_QuantOrder_K K)) (m_fieldfarelaw7_QuantOrder_K K)) a H := by kernel_rfl
  have h2 : codeP PP CC (subC (bodyC PP 6) [1, 1, 1, 0]) (exP (codeP PP CC (subC (bodyC PP 6) [1, 1, 1, 1]) (m_fieldfarelaw7_QuantOrder_K K)) (m_fieldfarelaw7_QuantOrder_K K)) a H = codeP PP CC (subC (bodyC PP 6) [1, 1, 1, 0]) (exP (fun (a : TE) (H : AH) => m_fieldfarelaw7_QuantOrdertttt K (a 0) (a 1) (a 2) (a 3) H) (m_fieldfarelaw7_QuantOrder_K K)) a H := congrArg (fun k : KE => codeP PP CC (subC (bodyC PP 6) [1, 1, 1, 0]) (exP k (m_fieldfarelaw7_QuantOrder_K K)) a H) (funext fun a => funext fun H => m_fieldfarelaw7_QuantOrdertttt_eq K a H)
  have h2b : codeP PP CC (subC (bodyC PP 6) [1, 1, 1, 0]) (exP (fun (a : TE) (H : AH) => m_fieldfarelaw7_QuantOrdertttt K (a 0) (a 1) (a 2) (a 3) H) (m_fieldfarelaw7_QuantOrder_K K)) a H = codeP PP CC (subC (bodyC PP 6) [1, 1, 1, 0]) (m_fieldfarelaw7_QuantOrderttt_k K) a H := by kernel_rfl
  have h3 : codeP PP CC (subC (bodyC PP 6) [1, 1, 1, 0]) (m_fieldfarelaw7_QuantOrderttt_k K) a H = m_fieldfarelaw7_QuantOrderttt K (a 0) (a 1) (a 2) (a 3) H := by kernel_rfl
  ((h1.trans h2).trans h2b).trans h3
abbrev m_fieldfarelaw7_QuantOrdertt_k (K : AV → AH → Prop) : KP := exP (fun (a : TE) (H : AH) => m_fieldfarelaw7_QuantOrderttt K (a 0) (a 1) (a 2) (a 3) H) (m_fieldfarelaw7_QuantOrder_K K)
def m_fieldfarelaw7_QuantOrdertt (K : AV → AH → Prop) (x0 x1 x2 x3 x9 : AV) (H : AH) : Prop :=
  outP CC H (w_un .not H x9) fun v1 H1 =>
  condP v1
  (K (.bool false) H1)
  (m_fieldfarelaw7_QuantOrderttt K x0 x1 x2 x3 H1)
theorem m_fieldfarelaw7_QuantOrdertt_eq (K : AV → AH → Prop) (a : TE) (H : AH) : codeP PP CC (subC (bodyC PP 6) [1, 1]) (m_fieldfarelaw7_QuantOrder_K K) a H = m_fieldfarelaw7_QuantOrdertt K (a 0) (a 1) (a 2) (a 3) (a 9) H :=
  have h1 : codeP PP CC (subC (bodyC PP 6) [1, 1]) (m_fieldfarelaw7_QuantOrder_K K) a H = codeP PP CC (subC (bodyC PP 6) [1, 1, 0]) (exP (codeP PP CC (subC (bodyC PP 6) [1, 1, 1]) (m_fieldfarelaw7_QuantOrder_K K)) (m_fieldfarelaw7_QuantOrder_K K)) a H := by kernel_rfl
  have h2 : codeP PP CC (subC (bodyC PP 6) [1, 1, 0]) (exP (codeP PP CC (subC (bodyC PP 6) [1, 1, 1]) (m_fieldfarelaw7_QuantOrder_K K)) (m_fieldfarelaw7_QuantOrder_K K)) a H = codeP PP CC (subC (bodyC PP 6) [1, 1, 0]) (exP (fun (a : TE) (H : AH) => m_fieldfarelaw7_QuantOrderttt K (a 0) (a 1) (a 2) (a 3) H) (m_fieldfarelaw7_QuantOrder_K K)) a H := congrArg (fun k : KE => codeP PP CC (subC (bodyC PP 6) [1, 1, 0]) (exP k (m_fieldfarelaw7_QuantOrder_K K)) a H) (funext fun a => funext fun H => m_fieldfarelaw7_QuantOrderttt_eq K a H)
  have h2b : codeP PP CC (subC (bodyC PP 6) [1, 1, 0]) (exP (fun (a : TE) (H : AH) => m_fieldfarelaw7_QuantOrderttt K (a 0) (a 1) (a 2) (a 3) H) (m_fieldfarelaw7_QuantOrder_K K)) a H = codeP PP CC (subC (bodyC PP 6) [1, 1, 0]) (m_fieldfarelaw7_QuantOrdertt_k K) a H := by kernel_rfl
  have h3 : codeP PP CC (subC (bodyC PP 6) [1, 1, 0]) (m_fieldfarelaw7_QuantOrdertt_k K) a H = m_fieldfarelaw7_QuantOrdertt K (a 0) (a 1) (a 2) (a 3) (a 9) H := by kernel_rfl
  ((h1.trans h2).trans h2b).trans h3
abbrev m_fieldfarelaw7_QuantOrdert_k (K : AV → AH → Prop) : KP := exP (fun (a : TE) (H : AH) => m_fieldfarelaw7_QuantOrdertt K (a 0) (a 1) (a 2) (a 3) (a 9) H) (m_fieldfarelaw7_QuantOrder_K K)
def m_fieldfarelaw7_QuantOrdert (K : AV → AH → Prop) (x0 x1 x2 x3 : AV) (H : AH) : Prop :=
  outP CC H (some (.enter 10 [])) fun v1 H1 =>
  m_fieldfarelaw7_QuantOrdertt K x0 x1 x2 x3 v1 H1
theorem m_fieldfarelaw7_QuantOrdert_eq (K : AV → AH → Prop) (a : TE) (H : AH) : codeP PP CC (subC (bodyC PP 6) [1]) (m_fieldfarelaw7_QuantOrder_K K) a H = m_fieldfarelaw7_QuantOrdert K (a 0) (a 1) (a 2) (a 3) H :=
  have h1 : codeP PP CC (subC (bodyC PP 6) [1]) (m_fieldfarelaw7_QuantOrder_K K) a H = codeP PP CC (subC (bodyC PP 6) [1, 0]) (exP (codeP PP CC (subC (bodyC PP 6) [1, 1]) (m_fieldfarelaw7_QuantOrder_K K)) (m_fieldfarelaw7_QuantOrder_K K)) a H := by kernel_rfl
  have h2 : codeP PP CC (subC (bodyC PP 6) [1, 0]) (exP (codeP PP CC (subC (bodyC PP 6) [1, 1]) (m_fieldfarelaw7_QuantOrder_K K)) (m_fieldfarelaw7_QuantOrder_K K)) a H = codeP PP CC (subC (bodyC PP 6) [1, 0]) (exP (fun (a : TE) (H : AH) => m_fieldfarelaw7_QuantOrdertt K (a 0) (a 1) (a 2) (a 3) (a 9) H) (m_fieldfarelaw7_QuantOrder_K K)) a H := congrArg (fun k : KE => codeP PP CC (subC (bodyC PP 6) [1, 0]) (exP k (m_fieldfarelaw7_QuantOrder_K K)) a H) (funext fun a => funext fun H => m_fieldfarelaw7_QuantOrdertt_eq K a H)
  have h2b : codeP PP CC (subC (bodyC PP 6) [1, 0]) (exP (fun (a : TE) (H : AH) => m_fieldfarelaw7_QuantOrdertt K (a 0) (a 1) (a 2) (a 3) (a 9) H) (m_fieldfarelaw7_QuantOrder_K K)) a H = codeP PP CC (subC (bodyC PP 6) [1, 0]) (m_fieldfarelaw7_QuantOrdert_k K) a H := by kernel_rfl
  have h3 : codeP PP CC (subC (bodyC PP 6) [1, 0]) (m_fieldfarelaw7_QuantOrdert_k K) a H = m_fieldfarelaw7_QuantOrdert K (a 0) (a 1) (a 2) (a 3) H := by kernel_rfl
  ((h1.trans h2).trans h2b).trans h3
abbrev m_fieldfarelaw7_QuantOrder_k (K : AV → AH → Prop) : KP := exP (fun (a : TE) (H : AH) => m_fieldfarelaw7_QuantOrdert K (a 0) (a 1) (a 2) (a 3) H) (m_fieldfarelaw7_QuantOrder_K K)
def m_fieldfarelaw7_QuantOrder (K : AV → AH → Prop) (x0 x1 x2 x3 : AV) (H : AH) : Prop :=
  m_fieldfarelaw7_QuantOrdert K x0 x1 x2 x3 H
theorem m_fieldfarelaw7_QuantOrder_eq (K : AV → AH → Prop) (a : TE) (H : AH) : codeP PP CC (subC (bodyC PP 6) []) (m_fieldfarelaw7_QuantOrder_K K) a H = m_fieldfarelaw7_QuantOrder K (a 0) (a 1) (a 2) (a 3) H :=
  have h1 : codeP PP CC (subC (bodyC PP 6) []) (m_fieldfarelaw7_QuantOrder_K K) a H = codeP PP CC (subC (bodyC PP 6) [0]) (exP (codeP PP CC (subC (bodyC PP 6) [1]) (m_fieldfarelaw7_QuantOrder_K K)) (m_fieldfarelaw7_QuantOrder_K K)) a H := by kernel_rfl
  have h2 : codeP PP CC (subC (bodyC PP 6) [0]) (exP (codeP PP CC (subC (bodyC PP 6) [1]) (m_fieldfarelaw7_QuantOrder_K K)) (m_fieldfarelaw7_QuantOrder_K K)) a H = codeP PP CC (subC (bodyC PP 6) [0]) (exP (fun (a : TE) (H : AH) => m_fieldfarelaw7_QuantOrdert K (a 0) (a 1) (a 2) (a 3) H) (m_fieldfarelaw7_QuantOrder_K K)) a H := congrArg (fun k : KE => codeP PP CC (subC (bodyC PP 6) [0]) (exP k (m_fieldfarelaw7_QuantOrder_K K)) a H) (funext fun a => funext fun H => m_fieldfarelaw7_QuantOrdert_eq K a H)
  have h2b : codeP PP CC (subC (bodyC PP 6) [0]) (exP (fun (a : TE) (H : AH) => m_fieldfarelaw7_QuantOrdert K (a 0) (a 1) (a 2) (a 3) H) (m_fieldfarelaw7_QuantOrder_K K)) a H = codeP PP CC (subC (bodyC PP 6) [0]) (m_fieldfarelaw7_QuantOrder_k K) a H := by kernel_rfl
  have h3 : codeP PP CC (subC (bodyC PP 6) [0]) (m_fieldfarelaw7_QuantOrder_k K) a H = m_fieldfarelaw7_QuantOrder K (a 0) (a 1) (a 2) (a 3) H := by kernel_rfl
  ((h1.trans h2).trans h2b).trans h3
theorem m_fieldfarelaw7_QuantOrder_ok (x0 x1 x2 x3 : AV) (H : AH) (K : AV → AH → Prop) (h : m_fieldfarelaw7_QuantOrder K x0 x1 x2 x3 H) : CC.call 6 [x0, x1, x2, x3] H K :=
  have h1 : funP PP CC 6 [x0, x1, x2, x3] H K = codeP PP CC (subC (bodyC PP 6) []) (m_fieldfarelaw7_QuantOrder_K K) (argE [x0, x1, x2, x3]) H := by kernel_rfl
  have h2 : m_fieldfarelaw7_QuantOrder K (argE [x0, x1, x2, x3] 0) (argE [x0, x1, x2, x3] 1) (argE [x0, x1, x2, x3] 2) (argE [x0, x1, x2, x3] 3) H = m_fieldfarelaw7_QuantOrder K x0 x1 x2 x3 H := by kernel_rfl
  funP_ok (P := PP) (by kernel_rfl) (by kernel_rfl) ((h1.trans ((m_fieldfarelaw7_QuantOrder_eq K (argE [x0, x1, x2, x3]) H).trans h2)).mpr h)

end
end Go.Ab
