/- slices.Insert, said as what the evaluator does. Printed by a program. -/
import Derived.Test.YtoafnnphjbdedaaGreatDoorBeg
import Derived.Test.YtoafnnphjbdedaaGreatDoorEv3
namespace Go.Ab
noncomputable section
open Go.Proofs
set_option maxRecDepth 100000


/-! 20: fieldfare/best.New -/
abbrev m_best_New_K (K : AV → AH → Prop) : KP := finP PP (resC PP 20) K
def m_best_New (K : AV → AH → Prop) (x0 : AV) (H : AH) : Prop :=
  outP CC H (w_max2 H x0 (.int .i64 0)) fun v1 H1 =>
  outP CC H1 (w_build PP 99 H1 [(1, v1)]) fun v2 H2 =>
  outP CC H2 (w_box 99 H2 v2 none) fun v3 H3 =>
  K v3 H3
theorem m_best_New_eq (K : AV → AH → Prop) (a : TE) (H : AH) : codeP PP CC (subC (bodyC PP 20) []) (m_best_New_K K) a H = m_best_New K (a 0) H :=
  by kernel_rfl
theorem m_best_New_ok (x0 : AV) (H : AH) (K : AV → AH → Prop) (h : m_best_New K x0 H) : CC.call 20 [x0] H K :=
  have h1 : funP PP CC 20 [x0] H K = codeP PP CC (subC (bodyC PP 20) []) (m_best_New_K K) (argE [x0]) H := by kernel_rfl
  have h2 : m_best_New K (argE [x0] 0) H = m_best_New K x0 H := by kernel_rfl
  funP_ok (P := PP) (by kernel_rfl) (by kernel_rfl) ((h1.trans ((m_best_New_eq K (argE [x0]) H).trans h2)).mpr h)

/-! 21: (*fieldfare/best.Best).Put -/
abbrev m_best_Best_Put_K (K : AV → AH → Prop) : KP := finP PP (resC PP 21) K
abbrev m_best_Best_Putttt_k (K : AV → AH → Prop) : KP := exP (codeP PP CC (subC (bodyC PP 21) [1, 1, 1, 1]) (m_best_Best_Put_K K)) (m_best_Best_Put_K K)
abbrev m_best_Best_Putttth_k (K : AV → AH → Prop) : KP := blockP 0 (m_best_Best_Putttt_k K)
abbrev m_best_Best_Putttthb_k (K : AV → AH → Prop) (r0 : (AV × AV × AV) → AH → Prop) : KP := exP (fun (a : TE) (H : AH) => r0 (a 0, a 3, a 5) H) (m_best_Best_Putttth_k K)
def m_best_Best_Putttthbl (K : AV → AH → Prop) (r0 : (AV × AV × AV) → AH → Prop) (x0 x3 x5 : AV) (H : AH) : Prop :=
  outP CC H (w_nil H x0) fun v1 H1 =>
  outP CC H1 (w_fieldAddr 0 H1 v1) fun v2 H2 =>
  outP CC H2 (w_load none H2 v2) fun v3 H3 =>
  outP CC H3 (w_len PP 32 H3 v3) fun v4 H4 =>
  outP CC H4 (w_int .lss H4 x5 v4) fun v5 H5 =>
  guardP (boolIs true v5) H5 (outP CC H5 (some (.val x0 H5))) fun v6 H6 =>
  guardP (boolIs true v5) H6 (outP CC H6 (w_nil H6 v6)) fun v7 H7 =>
  guardP (boolIs true v5) H7 (outP CC H7 (w_fieldAddr 0 H7 v7)) fun v8 H8 =>
  guardP (boolIs true v5) H8 (outP CC H8 (w_load none H8 v8)) fun v9 H9 =>
  guardP (boolIs true v5) H9 (outP CC H9 (some (.val x5 H9))) fun v10 H10 =>
  guardP (boolIs true v5) H10 (outP CC H10 (w_indexAddr (.sl 2) H10 v9 v10)) fun v11 H11 =>
  guardP (boolIs true v5) H11 (outP CC H11 (w_load (some 2) H11 v11)) fun v12 H12 =>
  guardP (boolIs true v5) H12 (outP CC H12 (w_load (some 2) H12 x3)) fun v13 H13 =>
  guardP (boolIs true v5) H13 (outP CC H13 (some (.enter 26 [v12, v13]))) fun v14 H14 =>
  outP CC H14 (w_pick H14 v5 v14 (.bool false)) fun v15 H15 =>
  condP v15
  (outP CC H15 (w_int .add H15 x5 (.int .i64 1)) fun v16 H16 =>
  r0 (x0, x3, v16) H16)
  (outP CC H15 (w_nil H15 x0) fun v17 H17 =>
  outP CC H17 (w_fieldAddr 1 H17 v17) fun v18 H18 =>
  outP CC H18 (w_load none H18 v18) fun v19 H19 =>
  outP CC H19 (w_int .geq H19 x5 v19) fun v20 H20 =>
  condP v20
  (K (.bool false) H20)
  (outP CC (H20.more 1) (w_nil (H20.more 1) x0) fun v21 H21 =>
  outP CC H21 (w_fieldAddr 0 H21 v21) fun v22 H22 =>
  outP CC H22 (w_load none H22 v22) fun v23 H23 =>
  outP CC H23 (w_load (some 2) H23 x3) fun v24 H24 =>
  outP CC H24 (w_buildSlice PP 37 1 H24 [(0, v24)] (some (Nat.add H20.next 0))) fun v25 H25 =>
  outP CC H25 (some (.enter 62 [v23, x5, v25])) fun v26 H26 =>
  outP CC H26 (w_nil H26 x0) fun v27 H27 =>
  outP CC H27 (w_fieldAddr 0 H27 v27) fun v28 H28 =>
  outP CC H28 (w_store 1 H28 v28 v26) fun _v29 H29 =>
  outP CC H29 (w_nil H29 x0) fun v30 H30 =>
  outP CC H30 (w_fieldAddr 0 H30 v30) fun v31 H31 =>
  outP CC H31 (w_load none H31 v31) fun v32 H32 =>
  outP CC H32 (w_nil H32 x0) fun v33 H33 =>
  outP CC H33 (w_fieldAddr 0 H33 v33) fun v34 H34 =>
  outP CC H34 (w_load none H34 v34) fun v35 H35 =>
  outP CC H35 (w_len PP 32 H35 v35) fun v36 H36 =>
  outP CC H36 (w_nil H36 x0) fun v37 H37 =>
  outP CC H37 (w_fieldAddr 1 H37 v37) fun v38 H38 =>
  outP CC H38 (w_load none H38 v38) fun v39 H39 =>
  outP CC H39 (w_min2 H39 v36 v39) fun v40 H40 =>
  outP CC H40 (w_slice (.sl 2) true false H40 v32 none (some v40) none) fun v41 H41 =>
  outP CC H41 (w_nil H41 x0) fun v42 H42 =>
  outP CC H42 (w_fieldAddr 0 H42 v42) fun v43 H43 =>
  outP CC H43 (w_store 1 H43 v43 v41) fun _v44 H44 =>
  K (.bool true) H44))
theorem m_best_Best_Putttthbl_eq (K : AV → AH → Prop) (r0 : (AV × AV × AV) → AH → Prop) (a : TE) (H : AH) : codeP PP CC (subC (bodyC PP 21) [1, 1, 1, 0, 0, 0]) (m_best_Best_Putttthb_k K r0) a H = m_best_Best_Putttthbl K r0 (a 0) (a 3) (a 5) H :=
  by kernel_rfl
def m_best_Best_Putttthb (K : AV → AH → Prop) (x0 x3 x5 : AV) (H : AH) : Prop :=
  loopP (fun (r0 : (AV × AV × AV) → AH → Prop) (s : (AV × AV × AV)) (H : AH) => m_best_Best_Putttthbl K r0 s.1 s.2.1 s.2.2 H) (x0, x3, x5) H
theorem m_best_Best_Putttthb_eq (K : AV → AH → Prop) (a : TE) (H : AH) : codeP PP CC (subC (bodyC PP 21) [1, 1, 1, 0, 0]) (m_best_Best_Putttth_k K) a H = m_best_Best_Putttthb K (a 0) (a 3) (a 5) H :=
  have h1 : codeP PP CC (subC (bodyC PP 21) [1, 1, 1, 0, 0]) (m_best_Best_Putttth_k K) a H = loopP (fun (rec : KE) => codeP PP CC (subC (bodyC PP 21) [1, 1, 1, 0, 0, 0]) (exP rec (m_best_Best_Putttth_k K))) a H := by kernel_rfl
  have h2 := loopP_iso (F := fun (rec : KE) => codeP PP CC (subC (bodyC PP 21) [1, 1, 1, 0, 0, 0]) (exP rec (m_best_Best_Putttth_k K))) (S := (AV × AV × AV)) (fun a => (a 0, a 3, a 5)) (fun (r0 : (AV × AV × AV) → AH → Prop) (s : (AV × AV × AV)) (H : AH) => m_best_Best_Putttthbl K r0 s.1 s.2.1 s.2.2 H) (fun (r0 : (AV × AV × AV) → AH → Prop) (a : TE) (H : AH) => (show codeP PP CC (subC (bodyC PP 21) [1, 1, 1, 0, 0, 0]) (exP (fun (a : TE) (H : AH) => r0 (a 0, a 3, a 5) H) (m_best_Best_Putttth_k K)) a H = codeP PP CC (subC (bodyC PP 21) [1, 1, 1, 0, 0, 0]) (m_best_Best_Putttthb_k K r0) a H from by kernel_rfl).trans (m_best_Best_Putttthbl_eq K r0 a H)) a H
  h1.trans h2
theorem m_best_Best_Putttth_eq (K : AV → AH → Prop) (a : TE) (H : AH) : codeP PP CC (subC (bodyC PP 21) [1, 1, 1, 0]) (m_best_Best_Putttt_k K) a H = m_best_Best_Putttthb K (a 0) (a 3) (a 5) H :=
  have h1 : codeP PP CC (subC (bodyC PP 21) [1, 1, 1, 0]) (m_best_Best_Putttt_k K) a H = codeP PP CC (subC (bodyC PP 21) [1, 1, 1, 0, 0]) (m_best_Best_Putttth_k K) a H := by kernel_rfl
  h1.trans (m_best_Best_Putttthb_eq K a H)
theorem m_best_Best_Putttt_eq (K : AV → AH → Prop) (a : TE) (H : AH) : codeP PP CC (subC (bodyC PP 21) [1, 1, 1]) (m_best_Best_Put_K K) a H = m_best_Best_Putttthb K (a 0) (a 3) (a 5) H :=
  have h1 : codeP PP CC (subC (bodyC PP 21) [1, 1, 1]) (m_best_Best_Put_K K) a H = codeP PP CC (subC (bodyC PP 21) [1, 1, 1, 0]) (m_best_Best_Putttt_k K) a H := by kernel_rfl
  h1.trans (m_best_Best_Putttth_eq K a H)
abbrev m_best_Best_Puttt_k (K : AV → AH → Prop) : KP := exP (fun (a : TE) (H : AH) => m_best_Best_Putttthb K (a 0) (a 3) (a 5) H) (m_best_Best_Put_K K)
def m_best_Best_Puttt (K : AV → AH → Prop) (x0 x3 : AV) (H : AH) : Prop :=
  m_best_Best_Putttthb K x0 x3 (.int .i64 0) H
theorem m_best_Best_Puttt_eq (K : AV → AH → Prop) (a : TE) (H : AH) : codeP PP CC (subC (bodyC PP 21) [1, 1]) (m_best_Best_Put_K K) a H = m_best_Best_Puttt K (a 0) (a 3) H :=
  have h1 : codeP PP CC (subC (bodyC PP 21) [1, 1]) (m_best_Best_Put_K K) a H = codeP PP CC (subC (bodyC PP 21) [1, 1, 0]) (exP (codeP PP CC (subC (bodyC PP 21) [1, 1, 1]) (m_best_Best_Put_K K)) (m_best_Best_Put_K K)) a H := by kernel_rfl
  have h2 : codeP PP CC (subC (bodyC PP 21) [1, 1, 0]) (exP (codeP PP CC (subC (bodyC PP 21) [1, 1, 1]) (m_best_Best_Put_K K)) (m_best_Best_Put_K K)) a H = codeP PP CC (subC (bodyC PP 21) [1, 1, 0]) (exP (fun (a : TE) (H : AH) => m_best_Best_Putttthb K (a 0) (a 3) (a 5) H) (m_best_Best_Put_K K)) a H := congrArg (fun k : KE => codeP PP CC (subC (bodyC PP 21) [1, 1, 0]) (exP k (m_best_Best_Put_K K)) a H) (funext fun a => funext fun H => m_best_Best_Putttt_eq K a H)
  have h2b : codeP PP CC (subC (bodyC PP 21) [1, 1, 0]) (exP (fun (a : TE) (H : AH) => m_best_Best_Putttthb K (a 0) (a 3) (a 5) H) (m_best_Best_Put_K K)) a H = codeP PP CC (subC (bodyC PP 21) [1, 1, 0]) (m_best_Best_Puttt_k K) a H := by kernel_rfl
  have h3 : codeP PP CC (subC (bodyC PP 21) [1, 1, 0]) (m_best_Best_Puttt_k K) a H = m_best_Best_Puttt K (a 0) (a 3) H := by kernel_rfl
  ((h1.trans h2).trans h2b).trans h3
abbrev m_best_Best_Putt_k (K : AV → AH → Prop) : KP := exP (fun (a : TE) (H : AH) => m_best_Best_Puttt K (a 0) (a 3) H) (m_best_Best_Put_K K)
def m_best_Best_Putt (K : AV → AH → Prop) (x0 x3 : AV) (H : AH) : Prop :=
  outP CC H (w_eq PP .eql 33 false true H x0 (.ptr none)) fun v1 H1 =>
  guardP (boolIs false v1) H1 (outP CC H1 (some (.val x0 H1))) fun v2 H2 =>
  guardP (boolIs false v1) H2 (outP CC H2 (w_nil H2 v2)) fun v3 H3 =>
  guardP (boolIs false v1) H3 (outP CC H3 (w_fieldAddr 0 H3 v3)) fun v4 H4 =>
  guardP (boolIs false v1) H4 (outP CC H4 (w_load none H4 v4)) fun v5 H5 =>
  guardP (boolIs false v1) H5 (outP CC H5 (some (.val (.fn (.func 61) [] [x3]) H5))) fun v6 H6 =>
  guardP (boolIs false v1) H6 (outP CC H6 (some (.enter 60 [v5, v6]))) fun v7 H7 =>
  outP CC H7 (w_pick H7 v1 (.bool true) v7) fun v8 H8 =>
  condP v8
  (K (.bool false) H8)
  (m_best_Best_Puttt K x0 x3 H8)
theorem m_best_Best_Putt_eq (K : AV → AH → Prop) (a : TE) (H : AH) : codeP PP CC (subC (bodyC PP 21) [1]) (m_best_Best_Put_K K) a H = m_best_Best_Putt K (a 0) (a 3) H :=
  have h1 : codeP PP CC (subC (bodyC PP 21) [1]) (m_best_Best_Put_K K) a H = codeP PP CC (subC (bodyC PP 21) [1, 0]) (exP (codeP PP CC (subC (bodyC PP 21) [1, 1]) (m_best_Best_Put_K K)) (m_best_Best_Put_K K)) a H := by kernel_rfl
  have h2 : codeP PP CC (subC (bodyC PP 21) [1, 0]) (exP (codeP PP CC (subC (bodyC PP 21) [1, 1]) (m_best_Best_Put_K K)) (m_best_Best_Put_K K)) a H = codeP PP CC (subC (bodyC PP 21) [1, 0]) (exP (fun (a : TE) (H : AH) => m_best_Best_Puttt K (a 0) (a 3) H) (m_best_Best_Put_K K)) a H := congrArg (fun k : KE => codeP PP CC (subC (bodyC PP 21) [1, 0]) (exP k (m_best_Best_Put_K K)) a H) (funext fun a => funext fun H => m_best_Best_Puttt_eq K a H)
  have h2b : codeP PP CC (subC (bodyC PP 21) [1, 0]) (exP (fun (a : TE) (H : AH) => m_best_Best_Puttt K (a 0) (a 3) H) (m_best_Best_Put_K K)) a H = codeP PP CC (subC (bodyC PP 21) [1, 0]) (m_best_Best_Putt_k K) a H := by kernel_rfl
  have h3 : codeP PP CC (subC (bodyC PP 21) [1, 0]) (m_best_Best_Putt_k K) a H = m_best_Best_Putt K (a 0) (a 3) H := by kernel_rfl
  ((h1.trans h2).trans h2b).trans h3
abbrev m_best_Best_Put_k (K : AV → AH → Prop) : KP := exP (fun (a : TE) (H : AH) => m_best_Best_Putt K (a 0) (a 3) H) (m_best_Best_Put_K K)
def m_best_Best_Put (K : AV → AH → Prop) (x0 x1 : AV) (H : AH) : Prop :=
  outP CC H (w_box 37 H x1 none) fun v1 H1 =>
  m_best_Best_Putt K x0 v1 H1
theorem m_best_Best_Put_eq (K : AV → AH → Prop) (a : TE) (H : AH) : codeP PP CC (subC (bodyC PP 21) []) (m_best_Best_Put_K K) a H = m_best_Best_Put K (a 0) (a 1) H :=
  have h1 : codeP PP CC (subC (bodyC PP 21) []) (m_best_Best_Put_K K) a H = codeP PP CC (subC (bodyC PP 21) [0]) (exP (codeP PP CC (subC (bodyC PP 21) [1]) (m_best_Best_Put_K K)) (m_best_Best_Put_K K)) a H := by kernel_rfl
  have h2 : codeP PP CC (subC (bodyC PP 21) [0]) (exP (codeP PP CC (subC (bodyC PP 21) [1]) (m_best_Best_Put_K K)) (m_best_Best_Put_K K)) a H = codeP PP CC (subC (bodyC PP 21) [0]) (exP (fun (a : TE) (H : AH) => m_best_Best_Putt K (a 0) (a 3) H) (m_best_Best_Put_K K)) a H := congrArg (fun k : KE => codeP PP CC (subC (bodyC PP 21) [0]) (exP k (m_best_Best_Put_K K)) a H) (funext fun a => funext fun H => m_best_Best_Putt_eq K a H)
  have h2b : codeP PP CC (subC (bodyC PP 21) [0]) (exP (fun (a : TE) (H : AH) => m_best_Best_Putt K (a 0) (a 3) H) (m_best_Best_Put_K K)) a H = codeP PP CC (subC (bodyC PP 21) [0]) (m_best_Best_Put_k K) a H := by kernel_rfl
  have h3 : codeP PP CC (subC (bodyC PP 21) [0]) (m_best_Best_Put_k K) a H = m_best_Best_Put K (a 0) (a 1) H := by kernel_rfl
  ((h1.trans h2).trans h2b).trans h3
theorem m_best_Best_Put_ok (x0 x1 : AV) (H : AH) (K : AV → AH → Prop) (h : m_best_Best_Put K x0 x1 H) : CC.call 21 [x0, x1] H K :=
  have h1 : funP PP CC 21 [x0, x1] H K = codeP PP CC (subC (bodyC PP 21) []) (m_best_Best_Put_K K) (argE [x0, x1]) H := by kernel_rfl
  have h2 : m_best_Best_Put K (argE [x0, x1] 0) (argE [x0, x1] 1) H = m_best_Best_Put K x0 x1 H := by kernel_rfl
  funP_ok (P := PP) (by kernel_rfl) (by kernel_rfl) ((h1.trans ((m_best_Best_Put_eq K (argE [x0, x1]) H).trans h2)).mpr h)

/-! 89: slices.IndexFunc[[]fieldfare/api.Hit,fieldfare/api.Hit] -/
abbrev m_slices_IndexFunc_api_Hit_api_Hit_K (K : AV → AH → Prop) : KP := finP PP (resC PP 89) K
abbrev m_slices_IndexFunc_api_Hit_api_Hitt_k (K : AV → AH → Prop) : KP := exP (codeP PP CC (subC (bodyC PP 89) [1, 1]) (m_slices_IndexFunc_api_Hit_api_Hit_K K)) (m_slices_IndexFunc_api_Hit_api_Hit_K K)
abbrev m_slices_IndexFunc_api_Hit_api_Hittht_k (K : AV → AH → Prop) : KP := blockP 0 (m_slices_IndexFunc_api_Hit_api_Hitt_k K)
abbrev m_slices_IndexFunc_api_Hit_api_Hitthtb_k (K : AV → AH → Prop) (r0 : (AV × AV × AV × AV) → AH → Prop) : KP := exP (fun (a : TE) (H : AH) => r0 (a 0, a 1, a 7, a 8) H) (m_slices_IndexFunc_api_Hit_api_Hittht_k K)
def m_slices_IndexFunc_api_Hit_api_Hitthtbl (K : AV → AH → Prop) (r0 : (AV × AV × AV × AV) → AH → Prop) (x0 x1 x7 x8 : AV) (H : AH) : Prop :=
  outP CC H (w_int .lss H x8 x7) fun v1 H1 =>
  condP v1
  (outP CC H1 (w_indexAddr (.sl 2) H1 x0 x8) fun v2 H2 =>
  outP CC H2 (w_load (some 2) H2 v2) fun v3 H3 =>
  outP CC H3 (callV [v3] x1) fun v4 H4 =>
  condP v4
  (K x8 H4)
  (outP CC H4 (w_int .add H4 x8 (.int .i64 1)) fun v5 H5 =>
  r0 (x0, x1, x7, v5) H5))
  (K (.int .i64 (-1)) H1)
theorem m_slices_IndexFunc_api_Hit_api_Hitthtbl_eq (K : AV → AH → Prop) (r0 : (AV × AV × AV × AV) → AH → Prop) (a : TE) (H : AH) : codeP PP CC (subC (bodyC PP 89) [1, 0, 1, 0, 0]) (m_slices_IndexFunc_api_Hit_api_Hitthtb_k K r0) a H = m_slices_IndexFunc_api_Hit_api_Hitthtbl K r0 (a 0) (a 1) (a 7) (a 8) H :=
  by kernel_rfl
def m_slices_IndexFunc_api_Hit_api_Hitthtb (K : AV → AH → Prop) (x0 x1 x7 x8 : AV) (H : AH) : Prop :=
  loopP (fun (r0 : (AV × AV × AV × AV) → AH → Prop) (s : (AV × AV × AV × AV)) (H : AH) => m_slices_IndexFunc_api_Hit_api_Hitthtbl K r0 s.1 s.2.1 s.2.2.1 s.2.2.2 H) (x0, x1, x7, x8) H
theorem m_slices_IndexFunc_api_Hit_api_Hitthtb_eq (K : AV → AH → Prop) (a : TE) (H : AH) : codeP PP CC (subC (bodyC PP 89) [1, 0, 1, 0]) (m_slices_IndexFunc_api_Hit_api_Hittht_k K) a H = m_slices_IndexFunc_api_Hit_api_Hitthtb K (a 0) (a 1) (a 7) (a 8) H :=
  have h1 : codeP PP CC (subC (bodyC PP 89) [1, 0, 1, 0]) (m_slices_IndexFunc_api_Hit_api_Hittht_k K) a H = loopP (fun (rec : KE) => codeP PP CC (subC (bodyC PP 89) [1, 0, 1, 0, 0]) (exP rec (m_slices_IndexFunc_api_Hit_api_Hittht_k K))) a H := by kernel_rfl
  have h2 := loopP_iso (F := fun (rec : KE) => codeP PP CC (subC (bodyC PP 89) [1, 0, 1, 0, 0]) (exP rec (m_slices_IndexFunc_api_Hit_api_Hittht_k K))) (S := (AV × AV × AV × AV)) (fun a => (a 0, a 1, a 7, a 8)) (fun (r0 : (AV × AV × AV × AV) → AH → Prop) (s : (AV × AV × AV × AV)) (H : AH) => m_slices_IndexFunc_api_Hit_api_Hitthtbl K r0 s.1 s.2.1 s.2.2.1 s.2.2.2 H) (fun (r0 : (AV × AV × AV × AV) → AH → Prop) (a : TE) (H : AH) => (show codeP PP CC (subC (bodyC PP 89) [1, 0, 1, 0, 0]) (exP (fun (a : TE) (H : AH) => r0 (a 0, a 1, a 7, a 8) H) (m_slices_IndexFunc_api_Hit_api_Hittht_k K)) a H = codeP PP CC (subC (bodyC PP 89) [1, 0, 1, 0, 0]) (m_slices_IndexFunc_api_Hit_api_Hitthtb_k K r0) a H from by kernel_rfl).trans (m_slices_IndexFunc_api_Hit_api_Hitthtbl_eq K r0 a H)) a H
  h1.trans h2
theorem m_slices_IndexFunc_api_Hit_api_Hittht_eq (K : AV → AH → Prop) (a : TE) (H : AH) : codeP PP CC (subC (bodyC PP 89) [1, 0, 1]) (m_slices_IndexFunc_api_Hit_api_Hitt_k K) a H = m_slices_IndexFunc_api_Hit_api_Hitthtb K (a 0) (a 1) (a 7) (a 8) H :=
  have h1 : codeP PP CC (subC (bodyC PP 89) [1, 0, 1]) (m_slices_IndexFunc_api_Hit_api_Hitt_k K) a H = codeP PP CC (subC (bodyC PP 89) [1, 0, 1, 0]) (m_slices_IndexFunc_api_Hit_api_Hittht_k K) a H := by kernel_rfl
  h1.trans (m_slices_IndexFunc_api_Hit_api_Hitthtb_eq K a H)
abbrev m_slices_IndexFunc_api_Hit_api_Hitth_k (K : AV → AH → Prop) : KP := exP (fun (a : TE) (H : AH) => m_slices_IndexFunc_api_Hit_api_Hitthtb K (a 0) (a 1) (a 7) (a 8) H) (m_slices_IndexFunc_api_Hit_api_Hitt_k K)
def m_slices_IndexFunc_api_Hit_api_Hitth (K : AV → AH → Prop) (x0 x1 : AV) (H : AH) : Prop :=
  outP CC H (w_len PP 32 H x0) fun v1 H1 =>
  m_slices_IndexFunc_api_Hit_api_Hitthtb K x0 x1 v1 (.int .i64 0) H1
theorem m_slices_IndexFunc_api_Hit_api_Hitth_eq (K : AV → AH → Prop) (a : TE) (H : AH) : codeP PP CC (subC (bodyC PP 89) [1, 0]) (m_slices_IndexFunc_api_Hit_api_Hitt_k K) a H = m_slices_IndexFunc_api_Hit_api_Hitth K (a 0) (a 1) H :=
  have h1 : codeP PP CC (subC (bodyC PP 89) [1, 0]) (m_slices_IndexFunc_api_Hit_api_Hitt_k K) a H = codeP PP CC (subC (bodyC PP 89) [1, 0, 0]) (exP (codeP PP CC (subC (bodyC PP 89) [1, 0, 1]) (m_slices_IndexFunc_api_Hit_api_Hitt_k K)) (m_slices_IndexFunc_api_Hit_api_Hitt_k K)) a H := by kernel_rfl
  have h2 : codeP PP CC (subC (bodyC PP 89) [1, 0, 0]) (exP (codeP PP CC (subC (bodyC PP 89) [1, 0, 1]) (m_slices_IndexFunc_api_Hit_api_Hitt_k K)) (m_slices_IndexFunc_api_Hit_api_Hitt_k K)) a H = codeP PP CC (subC (bodyC PP 89) [1, 0, 0]) (exP (fun (a : TE) (H : AH) => m_slices_IndexFunc_api_Hit_api_Hitthtb K (a 0) (a 1) (a 7) (a 8) H) (m_slices_IndexFunc_api_Hit_api_Hitt_k K)) a H := congrArg (fun k : KE => codeP PP CC (subC (bodyC PP 89) [1, 0, 0]) (exP k (m_slices_IndexFunc_api_Hit_api_Hitt_k K)) a H) (funext fun a => funext fun H => m_slices_IndexFunc_api_Hit_api_Hittht_eq K a H)
  have h2b : codeP PP CC (subC (bodyC PP 89) [1, 0, 0]) (exP (fun (a : TE) (H : AH) => m_slices_IndexFunc_api_Hit_api_Hitthtb K (a 0) (a 1) (a 7) (a 8) H) (m_slices_IndexFunc_api_Hit_api_Hitt_k K)) a H = codeP PP CC (subC (bodyC PP 89) [1, 0, 0]) (m_slices_IndexFunc_api_Hit_api_Hitth_k K) a H := by kernel_rfl
  have h3 : codeP PP CC (subC (bodyC PP 89) [1, 0, 0]) (m_slices_IndexFunc_api_Hit_api_Hitth_k K) a H = m_slices_IndexFunc_api_Hit_api_Hitth K (a 0) (a 1) H := by kernel_rfl
  ((h1.trans h2).trans h2b).trans h3
theorem m_slices_IndexFunc_api_Hit_api_Hitt_eq (K : AV → AH → Prop) (a : TE) (H : AH) : codeP PP CC (subC (bodyC PP 89) [1]) (m_slices_IndexFunc_api_Hit_api_Hit_K K) a H = m_slices_IndexFunc_api_Hit_api_Hitth K (a 0) (a 1) H :=
  have h1 : codeP PP CC (subC (bodyC PP 89) [1]) (m_slices_IndexFunc_api_Hit_api_Hit_K K) a H = codeP PP CC (subC (bodyC PP 89) [1, 0]) (m_slices_IndexFunc_api_Hit_api_Hitt_k K) a H := by kernel_rfl
  h1.trans (m_slices_IndexFunc_api_Hit_api_Hitth_eq K a H)
abbrev m_slices_IndexFunc_api_Hit_api_Hit_k (K : AV → AH → Prop) : KP := exP (fun (a : TE) (H : AH) => m_slices_IndexFunc_api_Hit_api_Hitth K (a 0) (a 1) H) (m_slices_IndexFunc_api_Hit_api_Hit_K K)
def m_slices_IndexFunc_api_Hit_api_Hit (K : AV → AH → Prop) (x0 x1 : AV) (H : AH) : Prop :=
  m_slices_IndexFunc_api_Hit_api_Hitth K x0 x1 H
theorem m_slices_IndexFunc_api_Hit_api_Hit_eq (K : AV → AH → Prop) (a : TE) (H : AH) : codeP PP CC (subC (bodyC PP 89) []) (m_slices_IndexFunc_api_Hit_api_Hit_K K) a H = m_slices_IndexFunc_api_Hit_api_Hit K (a 0) (a 1) H :=
  have h1 : codeP PP CC (subC (bodyC PP 89) []) (m_slices_IndexFunc_api_Hit_api_Hit_K K) a H = codeP PP CC (subC (bodyC PP 89) [0]) (exP (codeP PP CC (subC (bodyC PP 89) [1]) (m_slices_IndexFunc_api_Hit_api_Hit_K K)) (m_slices_IndexFunc_api_Hit_api_Hit_K K)) a H := by kernel_rfl
  have h2 : codeP PP CC (subC (bodyC PP 89) [0]) (exP (codeP PP CC (subC (bodyC PP 89) [1]) (m_slices_IndexFunc_api_Hit_api_Hit_K K)) (m_slices_IndexFunc_api_Hit_api_Hit_K K)) a H = codeP PP CC (subC (bodyC PP 89) [0]) (exP (fun (a : TE) (H : AH) => m_slices_IndexFunc_api_Hit_api_Hitth K (a 0) (a 1) H) (m_slices_IndexFunc_api_Hit_api_Hit_K K)) a H := congrArg (fun k : KE => codeP PP CC (subC (bodyC PP 89) [0]) (exP k (m_slices_IndexFunc_api_Hit_api_Hit_K K)) a H) (funext fun a => funext fun H => m_slices_IndexFunc_api_Hit_api_Hitt_eq K a H)
  have h2b : codeP PP CC (subC (bodyC PP 89) [0]) (exP (fun (a : TE) (H : AH) => m_slices_IndexFunc_api_Hit_api_Hitth K (a 0) (a 1) H) (m_slices_IndexFunc_api_Hit_api_Hit_K K)) a H = codeP PP CC (subC (bodyC PP 89) [0]) (m_slices_IndexFunc_api_Hit_api_Hit_k K) a H := by kernel_rfl
  have h3 : codeP PP CC (subC (bodyC PP 89) [0]) (m_slices_IndexFunc_api_Hit_api_Hit_k K) a H = m_slices_IndexFunc_api_Hit_api_Hit K (a 0) (a 1) H := by kernel_rfl
  ((h1.trans h2).trans h2b).trans h3
theorem m_slices_IndexFunc_api_Hit_api_Hit_ok (x0 x1 : AV) (H : AH) (K : AV → AH → Prop) (h : m_slices_IndexFunc_api_Hit_api_Hit K x0 x1 H) : CC.call 89 [x0, x1] H K :=
  have h1 : funP PP CC 89 [x0, x1] H K = codeP PP CC (subC (bodyC PP 89) []) (m_slices_IndexFunc_api_Hit_api_Hit_K K) (argE [x0, x1]) H := by kernel_rfl
  have h2 : m_slices_IndexFunc_api_Hit_api_Hit K (argE [x0, x1] 0) (argE [x0, x1] 1) H = m_slices_IndexFunc_api_Hit_api_Hit K x0 x1 H := by kernel_rfl
  funP_ok (P := PP) (by kernel_rfl) (by kernel_rfl) ((h1.trans ((m_slices_IndexFunc_api_Hit_api_Hit_eq K (argE [x0, x1]) H).trans h2)).mpr h)

/-! 60: slices.ContainsFunc[[]fieldfare/api.Hit,fieldfare/api.Hit] -/
abbrev m_slices_ContainsFunc_api_Hit_api_Hit_K (K : AV → AH → Prop) : KP := finP PP (resC PP 60) K
def m_slices_ContainsFunc_api_Hit_api_Hit (K : AV → AH → Prop) (x0 x1 : AV) (H : AH) : Prop :=
  outP CC H (some (.enter 89 [x0, x1])) fun v1 H1 =>
  outP CC H1 (w_int .geq H1 v1 (.int .i64 0)) fun v2 H2 =>
  K v2 H2
theorem m_slices_ContainsFunc_api_Hit_api_Hit_eq (K : AV → AH → Prop) (a : TE) (H : AH) : codeP PP CC (subC (bodyC PP 60) []) (m_slices_ContainsFunc_api_Hit_api_Hit_K K) a H = m_slices_ContainsFunc_api_Hit_api_Hit K (a 0) (a 1) H :=
  by kernel_rfl
theorem m_slices_ContainsFunc_api_Hit_api_Hit_ok (x0 x1 : AV) (H : AH) (K : AV → AH → Prop) (h : m_slices_ContainsFunc_api_Hit_api_Hit K x0 x1 H) : CC.call 60 [x0, x1] H K :=
  have h1 : funP PP CC 60 [x0, x1] H K = codeP PP CC (subC (bodyC PP 60) []) (m_slices_ContainsFunc_api_Hit_api_Hit_K K) (argE [x0, x1]) H := by kernel_rfl
  have h2 : m_slices_ContainsFunc_api_Hit_api_Hit K (argE [x0, x1] 0) (argE [x0, x1] 1) H = m_slices_ContainsFunc_api_Hit_api_Hit K x0 x1 H := by kernel_rfl
  funP_ok (P := PP) (by kernel_rfl) (by kernel_rfl) ((h1.trans ((m_slices_ContainsFunc_api_Hit_api_Hit_eq K (argE [x0, x1]) H).trans h2)).mpr h)

/-! 61: (*fieldfare/best.Best).Put$1 -/
abbrev m_best_Best_Put_1_K (K : AV → AH → Prop) : KP := finP PP (resC PP 61) K
def m_best_Best_Put_1 (K : AV → AH → Prop) (x0 x1 : AV) (H : AH) : Prop :=
  outP CC H (w_box 37 H x0 none) fun v1 H1 =>
  outP CC H1 (w_fieldAddr 0 H1 v1) fun v2 H2 =>
  outP CC H2 (w_load none H2 v2) fun v3 H3 =>
  outP CC H3 (w_fieldAddr 0 H3 x1) fun v4 H4 =>
  outP CC H4 (w_load none H4 v4) fun v5 H5 =>
  outP CC H5 (w_int .eql H5 v3 v5) fun v6 H6 =>
  K v6 H6
theorem m_best_Best_Put_1_eq (K : AV → AH → Prop) (a : TE) (H : AH) : codeP PP CC (subC (bodyC PP 61) []) (m_best_Best_Put_1_K K) a H = m_best_Best_Put_1 K (a 0) (a 1) H :=
  by kernel_rfl
theorem m_best_Best_Put_1_ok (x0 x1 : AV) (H : AH) (K : AV → AH → Prop) (h : m_best_Best_Put_1 K x0 x1 H) : CC.call 61 [x0, x1] H K :=
  have h1 : funP PP CC 61 [x0, x1] H K = codeP PP CC (subC (bodyC PP 61) []) (m_best_Best_Put_1_K K) (argE [x0, x1]) H := by kernel_rfl
  have h2 : m_best_Best_Put_1 K (argE [x0, x1] 0) (argE [x0, x1] 1) H = m_best_Best_Put_1 K x0 x1 H := by kernel_rfl
  funP_ok (P := PP) (by kernel_rfl) (by kernel_rfl) ((h1.trans ((m_best_Best_Put_1_eq K (argE [x0, x1]) H).trans h2)).mpr h)

/-! 63: slices.Clone[[]fieldfare/api.Hit,fieldfare/api.Hit] -/
abbrev m_slices_Clone_api_Hit_api_Hit_K (K : AV → AH → Prop) : KP := finP PP (resC PP 63) K
def m_slices_Clone_api_Hit_api_Hit (K : AV → AH → Prop) (x0 : AV) (H : AH) : Prop :=
  outP CC H (w_eq PP .eql 32 false true H x0 (.slice none 0 0 true)) fun v1 H1 =>
  condP v1
  (K (.slice none 0 0 true) H1)
  (outP CC H1 (w_buildSlice PP 37 0 H1 [] none) fun v2 H2 =>
  outP CC H2 (w_append 37 2 16 H2 v2 x0 none) fun v3 H3 =>
  K v3 H3)
theorem m_slices_Clone_api_Hit_api_Hit_eq (K : AV → AH → Prop) (a : TE) (H : AH) : codeP PP CC (subC (bodyC PP 63) []) (m_slices_Clone_api_Hit_api_Hit_K K) a H = m_slices_Clone_api_Hit_api_Hit K (a 0) H :=
  by kernel_rfl
theorem m_slices_Clone_api_Hit_api_Hit_ok (x0 : AV) (H : AH) (K : AV → AH → Prop) (h : m_slices_Clone_api_Hit_api_Hit K x0 H) : CC.call 63 [x0] H K :=
  have h1 : funP PP CC 63 [x0] H K = codeP PP CC (subC (bodyC PP 63) []) (m_slices_Clone_api_Hit_api_Hit_K K) (argE [x0]) H := by kernel_rfl
  have h2 : m_slices_Clone_api_Hit_api_Hit K (argE [x0] 0) H = m_slices_Clone_api_Hit_api_Hit K x0 H := by kernel_rfl
  funP_ok (P := PP) (by kernel_rfl) (by kernel_rfl) ((h1.trans ((m_slices_Clone_api_Hit_api_Hit_eq K (argE [x0]) H).trans h2)).mpr h)

/-! 22: (*fieldfare/best.Best).All -/
abbrev m_best_Best_All_K (K : AV → AH → Prop) : KP := finP PP (resC PP 22) K
def m_best_Best_All (K : AV → AH → Prop) (x0 : AV) (H : AH) : Prop :=
  outP CC H (w_eq PP .eql 33 false true H x0 (.ptr none)) fun v1 H1 =>
  condP v1
  (K (.slice none 0 0 true) H1)
  (outP CC H1 (w_nil H1 x0) fun v2 H2 =>
  outP CC H2 (w_fieldAddr 0 H2 v2) fun v3 H3 =>
  outP CC H3 (w_load none H3 v3) fun v4 H4 =>
  outP CC H4 (some (.enter 63 [v4])) fun v5 H5 =>
  K v5 H5)
theorem m_best_Best_All_eq (K : AV → AH → Prop) (a : TE) (H : AH) : codeP PP CC (subC (bodyC PP 22) []) (m_best_Best_All_K K) a H = m_best_Best_All K (a 0) H :=
  by kernel_rfl
theorem m_best_Best_All_ok (x0 : AV) (H : AH) (K : AV → AH → Prop) (h : m_best_Best_All K x0 H) : CC.call 22 [x0] H K :=
  have h1 : funP PP CC 22 [x0] H K = codeP PP CC (subC (bodyC PP 22) []) (m_best_Best_All_K K) (argE [x0]) H := by kernel_rfl
  have h2 : m_best_Best_All K (argE [x0] 0) H = m_best_Best_All K x0 H := by kernel_rfl
  funP_ok (P := PP) (by kernel_rfl) (by kernel_rfl) ((h1.trans ((m_best_Best_All_eq K (argE [x0]) H).trans h2)).mpr h)

/-! 23: fieldfare/fieldfarelaw7.Hits -/
abbrev m_fieldfarelaw7_Hits_K (K : AV → AH → Prop) : KP := finP PP (resC PP 23) K
abbrev m_fieldfarelaw7_Hitstt_k (K : AV → AH → Prop) : KP := exP (codeP PP CC (subC (bodyC PP 23) [1, 1, 1]) (m_fieldfarelaw7_Hits_K K)) (m_fieldfarelaw7_Hits_K K)
abbrev m_fieldfarelaw7_Hitsttht_k (K : AV → AH → Prop) : KP := blockP 0 (m_fieldfarelaw7_Hitstt_k K)
abbrev m_fieldfarelaw7_Hitstthtb_k (K : AV → AH → Prop) (r0 : (AV × AV × AV × AV) → AH → Prop) : KP := exP (fun (a : TE) (H : AH) => r0 (a 0, a 1, a 12, a 13) H) (m_fieldfarelaw7_Hitsttht_k K)
def m_fieldfarelaw7_Hitstthtbl (K : AV → AH → Prop) (r0 : (AV × AV × AV × AV) → AH → Prop) (x0 x1 x12 x13 : AV) (H : AH) : Prop :=
  outP CC H (w_int .lss H x13 x12) fun v1 H1 =>
  condP v1
  (outP CC H1 (w_indexAddr (.sl 2) H1 x0 x13) fun v2 H2 =>
  outP CC H2 (w_load (some 2) H2 v2) fun v3 H3 =>
  outP CC H3 (w_indexAddr (.sl 2) H3 x1 x13) fun v4 H4 =>
  outP CC H4 (w_load (some 2) H4 v4) fun v5 H5 =>
  outP CC H5 (w_eq PP .neq 37 false false H5 v3 v5) fun v6 H6 =>
  condP v6
  (K (.bool false) H6)
  (outP CC H6 (w_int .add H6 x13 (.int .i64 1)) fun v7 H7 =>
  r0 (x0, x1, x12, v7) H7))
  (K (.bool true) H1)
theorem m_fieldfarelaw7_Hitstthtbl_eq (K : AV → AH → Prop) (r0 : (AV × AV × AV × AV) → AH → Prop) (a : TE) (H : AH) : codeP PP CC (subC (bodyC PP 23) [1, 1, 0, 1, 0, 0]) (m_fieldfarelaw7_Hitstthtb_k K r0) a H = m_fieldfarelaw7_Hitstthtbl K r0 (a 0) (a 1) (a 12) (a 13) H :=
  by kernel_rfl
def m_fieldfarelaw7_Hitstthtb (K : AV → AH → Prop) (x0 x1 x12 x13 : AV) (H : AH) : Prop :=
  loopP (fun (r0 : (AV × AV × AV × AV) → AH → Prop) (s : (AV × AV × AV × AV)) (H : AH) => m_fieldfarelaw7_Hitstthtbl K r0 s.1 s.2.1 s.2.2.1 s.2.2.2 H) (x0, x1, x12, x13) H
theorem m_fieldfarelaw7_Hitstthtb_eq (K : AV → AH → Prop) (a : TE) (H : AH) : codeP PP CC (subC (bodyC PP 23) [1, 1, 0, 1, 0]) (m_fieldfarelaw7_Hitsttht_k K) a H = m_fieldfarelaw7_Hitstthtb K (a 0) (a 1) (a 12) (a 13) H :=
  have h1 : codeP PP CC (subC (bodyC PP 23) [1, 1, 0, 1, 0]) (m_fieldfarelaw7_Hitsttht_k K) a H = loopP (fun (rec : KE) => codeP PP CC (subC (bodyC PP 23) [1, 1, 0, 1, 0, 0]) (exP rec (m_fieldfarelaw7_Hitsttht_k K))) a H := by kernel_rfl
  have h2 := loopP_iso (F := fun (rec : KE) => codeP PP CC (subC (bodyC PP 23) [1, 1, 0, 1, 0, 0]) (exP rec (m_fieldfarelaw7_Hitsttht_k K))) (S := (AV × AV × AV × AV)) (fun a => (a 0, a 1, a 12, a 13)) (fun (r0 : (AV × AV × AV × AV) → AH → Prop) (s : (AV × AV × AV × AV)) (H : AH) => m_fieldfarelaw7_Hitstthtbl K r0 s.1 s.2.1 s.2.2.1 s.2.2.2 H) (fun (r0 : (AV × AV × AV × AV) → AH → Prop) (a : TE) (H : AH) => (show codeP PP CC (subC (bodyC PP 23) [1, 1, 0, 1, 0, 0]) (exP (fun (a : TE) (H : AH) => r0 (a 0, a 1, a 12, a 13) H) (m_fieldfarelaw7_Hitsttht_k K)) a H = codeP PP CC (subC (bodyC PP 23) [1, 1, 0, 1, 0, 0]) (m_fieldfarelaw7_Hitstthtb_k K r0) a H from by kernel_rfl).trans (m_fieldfarelaw7_Hitstthtbl_eq K r0 a H)) a H
  h1.trans h2
theorem m_fieldfarelaw7_Hitsttht_eq (K : AV → AH → Prop) (a : TE) (H : AH) : codeP PP CC (subC (bodyC PP 23) [1, 1, 0, 1]) (m_fieldfarelaw7_Hitstt_k K) a H = m_fieldfarelaw7_Hitstthtb K (a 0) (a 1) (a 12) (a 13) H :=
  have h1 : codeP PP CC (subC (bodyC PP 23) [1, 1, 0, 1]) (m_fieldfarelaw7_Hitstt_k K) a H = codeP PP CC (subC (bodyC PP 23) [1, 1, 0, 1, 0]) (m_fieldfarelaw7_Hitsttht_k K) a H := by kernel_rfl
  h1.trans (m_fieldfarelaw7_Hitstthtb_eq K a H)
abbrev m_fieldfarelaw7_Hitstth_k (K : AV → AH → Prop) : KP := exP (fun (a : TE) (H : AH) => m_fieldfarelaw7_Hitstthtb K (a 0) (a 1) (a 12) (a 13) H) (m_fieldfarelaw7_Hitstt_k K)
def m_fieldfarelaw7_Hitstth (K : AV → AH → Prop) (x0 x1 : AV) (H : AH) : Prop :=
  outP CC H (w_len PP 32 H x0) fun v1 H1 =>
  m_fieldfarelaw7_Hitstthtb K x0 x1 v1 (.int .i64 0) H1
theorem m_fieldfarelaw7_Hitstth_eq (K : AV → AH → Prop) (a : TE) (H : AH) : codeP PP CC (subC (bodyC PP 23) [1, 1, 0]) (m_fieldfarelaw7_Hitstt_k K) a H = m_fieldfarelaw7_Hitstth K (a 0) (a 1) H :=
  have h1 : codeP PP CC (subC (bodyC PP 23) [1, 1, 0]) (m_fieldfarelaw7_Hitstt_k K) a H = codeP PP CC (subC (bodyC PP 23) [1, 1, 0, 0]) (exP (codeP PP CC (subC (bodyC PP 23) [1, 1, 0, 1]) (m_fieldfarelaw7_Hitstt_k K)) (m_fieldfarelaw7_Hitstt_k K)) a H := by kernel_rfl
  have h2 : codeP PP CC (subC (bodyC PP 23) [1, 1, 0, 0]) (exP (codeP PP CC (subC (bodyC PP 23) [1, 1, 0, 1]) (m_fieldfarelaw7_Hitstt_k K)) (m_fieldfarelaw7_Hitstt_k K)) a H = codeP PP CC (subC (bodyC PP 23) [1, 1, 0, 0]) (exP (fun (a : TE) (H : AH) => m_fieldfarelaw7_Hitstthtb K (a 0) (a 1) (a 12) (a 13) H) (m_fieldfarelaw7_Hitstt_k K)) a H := congrArg (fun k : KE => codeP PP CC (subC (bodyC PP 23) [1, 1, 0, 0]) (exP k (m_fieldfarelaw7_Hitstt_k K)) a H) (funext fun a => funext fun H => m_fieldfarelaw7_Hitsttht_eq K a H)
  have h2b : codeP PP CC (subC (bodyC PP 23) [1, 1, 0, 0]) (exP (fun (a : TE) (H : AH) => m_fieldfarelaw7_Hitstthtb K (a 0) (a 1) (a 12) (a 13) H) (m_fieldfarelaw7_Hitstt_k K)) a H = codeP PP CC (subC (bodyC PP 23) [1, 1, 0, 0]) (m_fieldfarelaw7_Hitstth_k K) a H := by kernel_rfl
  have h3 : codeP PP CC (subC (bodyC PP 23) [1, 1, 0, 0]) (m_fieldfarelaw7_Hitstth_k K) a H = m_fieldfarelaw7_Hitstth K (a 0) (a 1) H := by kernel_rfl
  ((h1.trans h2).trans h2b).trans h3
theorem m_fieldfarelaw7_Hitstt_eq (K : AV → AH → Prop) (a : TE) (H : AH) : codeP PP CC (subC (bodyC PP 23) [1, 1]) (m_fieldfarelaw7_Hits_K K) a H = m_fieldfarelaw7_Hitstth K (a 0) (a 1) H :=
  have h1 : codeP PP CC (subC (bodyC PP 23) [1, 1]) (m_fieldfarelaw7_Hits_K K) a H = codeP PP CC (subC (bodyC PP 23) [1, 1, 0]) (m_fieldfarelaw7_Hitstt_k K) a H := by kernel_rfl
  h1.trans (m_fieldfarelaw7_Hitstth_eq K a H)
abbrev m_fieldfarelaw7_Hitst_k (K : AV → AH → Prop) : KP := exP (fun (a : TE) (H : AH) => m_fieldfarelaw7_Hitstth K (a 0) (a 1) H) (m_fieldfarelaw7_Hits_K K)
def m_fieldfarelaw7_Hitst (K : AV → AH → Prop) (x0 x1 : AV) (H : AH) : Prop :=
  outP CC H (w_len PP 32 H x0) fun v1 H1 =>
  outP CC H1 (w_len PP 32 H1 x1) fun v2 H2 =>
  outP CC H2 (w_int .neq H2 v1 v2) fun v3 H3 =>
  condP v3
  (K (.bool false) H3)
  (m_fieldfarelaw7_Hitstth K x0 x1 H3)
theorem m_fieldfarelaw7_Hitst_eq (K : AV → AH → Prop) (a : TE) (H : AH) : codeP PP CC (subC (bodyC PP 23) [1]) (m_fieldfarelaw7_Hits_K K) a H = m_fieldfarelaw7_Hitst K (a 0) (a 1) H :=
  have h1 : codeP PP CC (subC (bodyC PP 23) [1]) (m_fieldfarelaw7_Hits_K K) a H = codeP PP CC (subC (bodyC PP 23) [1, 0]) (exP (codeP PP CC (subC (bodyC PP 23) [1, 1]) (m_fieldfarelaw7_Hits_K K)) (m_fieldfarelaw7_Hits_K K)) a H := by kernel_rfl
  have h2 : codeP PP CC (subC (bodyC PP 23) [1, 0]) (exP (codeP PP CC (subC (bodyC PP 23) [1, 1]) (m_fieldfarelaw7_Hits_K K)) (m_fieldfarelaw7_Hits_K K)) a H = codeP PP CC (subC (bodyC PP 23) [1, 0]) (exP (fun (a : TE) (H : AH) => m_fieldfarelaw7_Hitstth K (a 0) (a 1) H) (m_fieldfarelaw7_Hits_K K)) a H := congrArg (fun k : KE => codeP PP CC (subC (bodyC PP 23) [1, 0]) (exP k (m_fieldfarelaw7_Hits_K K)) a H) (funext fun a => funext fun H => m_fieldfarelaw7_Hitstt_eq K a H)
  have h2b : codeP PP CC (subC (bodyC PP 23) [1, 0]) (exP (fun (a : TE) (H : AH) => m_fieldfarelaw7_Hitstth K (a 0) (a 1) H) (m_fieldfarelaw7_Hits_K K)) a H = codeP PP CC (subC (bodyC PP 23) [1, 0]) (m_fieldfarelaw7_Hitst_k K) a H := by kernel_rfl
  have h3 : codeP PP CC (subC (bodyC PP 23) [1, 0]) (m_fieldfarelaw7_Hitst_k K) a H = m_fieldfarelaw7_Hitst K (a 0) (a 1) H := by kernel_rfl
  ((h1.trans h2).trans h2b).trans h3
abbrev m_fieldfarelaw7_Hits_k (K : AV → AH → Prop) : KP := exP (fun (a : TE) (H : AH) => m_fieldfarelaw7_Hitst K (a 0) (a 1) H) (m_fieldfarelaw7_Hits_K K)
def m_fieldfarelaw7_Hits (K : AV → AH → Prop) (x0 x1 : AV) (H : AH) : Prop :=
  m_fieldfarelaw7_Hitst K x0 x1 H
theorem m_fieldfarelaw7_Hits_eq (K : AV → AH → Prop) (a : TE) (H : AH) : codeP PP CC (subC (bodyC PP 23) []) (m_fieldfarelaw7_Hits_K K) a H = m_fieldfarelaw7_Hits K (a 0) (a 1) H :=
  have h1 : codeP PP CC (subC (bodyC PP 23) []) (m_fieldfarelaw7_Hits_K K) a H = codeP PP CC (subC (bodyC PP 23) [0]) (exP (codeP PP CC (subC (bodyC PP 23) [1]) (m_fieldfarelaw7_Hits_K K)) (m_fieldfarelaw7_Hits_K K)) a H := by kernel_rfl
  have h2 : codeP PP CC (subC (bodyC PP 23) [0]) (exP (codeP PP CC (subC (bodyC PP 23) [1]) (m_fieldfarelaw7_Hits_K K)) (m_fieldfarelaw7_Hits_K K)) a H = codeP PP CC (subC (bodyC PP 23) [0]) (exP (fun (a : TE) (H : AH) => m_fieldfarelaw7_Hitst K (a 0) (a 1) H) (m_fieldfarelaw7_Hits_K K)) a H := congrArg (fun k : KE => codeP PP CC (subC (bodyC PP 23) [0]) (exP k (m_fieldfarelaw7_Hits_K K)) a H) (funext fun a => funext fun H => m_fieldfarelaw7_Hitst_eq K a H)
  have h2b : codeP PP CC (subC (bodyC PP 23) [0]) (exP (fun (a : TE) (H : AH) => m_fieldfarelaw7_Hitst K (a 0) (a 1) H) (m_fieldfarelaw7_Hits_K K)) a H = codeP PP CC (subC (bodyC PP 23) [0]) (m_fieldfarelaw7_Hits_k K) a H := by kernel_rfl
  have h3 : codeP PP CC (subC (bodyC PP 23) [0]) (m_fieldfarelaw7_Hits_k K) a H = m_fieldfarelaw7_Hits K (a 0) (a 1) H := by kernel_rfl
  ((h1.trans h2).trans h2b).trans h3
theorem m_fieldfarelaw7_Hits_ok (x0 x1 : AV) (H : AH) (K : AV → AH → Prop) (h : m_fieldfarelaw7_Hits K x0 x1 H) : CC.call 23 [x0, x1] H K :=
  have h1 : funP PP CC 23 [x0, x1] H K = codeP PP CC (subC (bodyC PP 23) []) (m_fieldfarelaw7_Hits_K K) (argE [x0, x1]) H := by kernel_rfl
  have h2 : m_fieldfarelaw7_Hits K (argE [x0, x1] 0) (argE [x0, x1] 1) H = m_fieldfarelaw7_Hits K x0 x1 H := by kernel_rfl
  funP_ok (P := PP) (by kernel_rfl) (by kernel_rfl) ((h1.trans ((m_fieldfarelaw7_Hits_eq K (argE [x0, x1]) H).trans h2)).mpr h)

/-! 24: (*fieldfare/best.Best).Len -/
abbrev m_best_Best_Len_K (K : AV → AH → Prop) : KP := finP PP (resC PP 24) K
def m_best_Best_Len (K : AV → AH → Prop) (x0 : AV) (H : AH) : Prop :=
  outP CC H (w_eq PP .eql 33 false true H x0 (.ptr none)) fun v1 H1 =>
  condP v1
  (K (.int .i64 0) H1)
  (outP CC H1 (w_nil H1 x0) fun v2 H2 =>
  outP CC H2 (w_fieldAddr 0 H2 v2) fun v3 H3 =>
  outP CC H3 (w_load none H3 v3) fun v4 H4 =>
  outP CC H4 (w_len PP 32 H4 v4) fun v5 H5 =>
  K v5 H5)
theorem m_best_Best_Len_eq (K : AV → AH → Prop) (a : TE) (H : AH) : codeP PP CC (subC (bodyC PP 24) []) (m_best_Best_Len_K K) a H = m_best_Best_Len K (a 0) H :=
  by kernel_rfl
theorem m_best_Best_Len_ok (x0 : AV) (H : AH) (K : AV → AH → Prop) (h : m_best_Best_Len K x0 H) : CC.call 24 [x0] H K :=
  have h1 : funP PP CC 24 [x0] H K = codeP PP CC (subC (bodyC PP 24) []) (m_best_Best_Len_K K) (argE [x0]) H := by kernel_rfl
  have h2 : m_best_Best_Len K (argE [x0] 0) H = m_best_Best_Len K x0 H := by kernel_rfl
  funP_ok (P := PP) (by kernel_rfl) (by kernel_rfl) ((h1.trans ((m_best_Best_Len_eq K (argE [x0]) H).trans h2)).mpr h)

/-! 25: fieldfare/best.Of -/
abbrev m_best_Of_K (K : AV → AH → Prop) : KP := finP PP (resC PP 25) K
abbrev m_best_Oftt_k (K : AV → AH → Prop) : KP := exP (codeP PP CC (subC (bodyC PP 25) [1, 1, 1]) (m_best_Of_K K)) (m_best_Of_K K)
abbrev m_best_Ofttht_k (K : AV → AH → Prop) : KP := blockP 0 (m_best_Oftt_k K)
abbrev m_best_Oftthtb_k (K : AV → AH → Prop) (r0 : (AV × AV × AV × AV) → AH → Prop) : KP := exP (fun (a : TE) (H : AH) => r0 (a 5, a 10, a 11, a 12) H) (m_best_Ofttht_k K)
def m_best_Oftthtbl (K : AV → AH → Prop) (r0 : (AV × AV × AV × AV) → AH → Prop) (x5 x10 x11 x12 : AV) (H : AH) : Prop :=
  outP CC H (w_int .lss H x12 x11) fun v1 H1 =>
  condP v1
  (outP CC H1 (w_indexAddr (.sl 2) H1 x10 x12) fun v2 H2 =>
  outP CC H2 (w_load (some 2) H2 v2) fun v3 H3 =>
  outP CC H3 (w_alloc 37 [(.int .i64 0), (.int .i64 0)] H3 none) fun v4 H4 =>
  outP CC H4 (w_store 2 H4 v4 v3) fun _v5 H5 =>
  outP CC H5 (w_load (some 2) H5 v4) fun v6 H6 =>
  outP CC H6 (some (.enter 21 [x5, v6])) fun _v7 H7 =>
  outP CC H7 (w_int .add H7 x12 (.int .i64 1)) fun v8 H8 =>
  r0 (x5, x10, x11, v8) H8)
  (outP CC H1 (some (.enter 22 [x5])) fun v9 H9 =>
  K v9 H9)
theorem m_best_Oftthtbl_eq (K : AV → AH → Prop) (r0 : (AV × AV × AV × AV) → AH → Prop) (a : TE) (H : AH) : codeP PP CC (subC (bodyC PP 25) [1, 1, 0, 1, 0, 0]) (m_best_Oftthtb_k K r0) a H = m_best_Oftthtbl K r0 (a 5) (a 10) (a 11) (a 12) H :=
  by kernel_rfl
def m_best_Oftthtb (K : AV → AH → Prop) (x5 x10 x11 x12 : AV) (H : AH) : Prop :=
  loopP (fun (r0 : (AV × AV × AV × AV) → AH → Prop) (s : (AV × AV × AV × AV)) (H : AH) => m_best_Oftthtbl K r0 s.1 s.2.1 s.2.2.1 s.2.2.2 H) (x5, x10, x11, x12) H
theorem m_best_Oftthtb_eq (K : AV → AH → Prop) (a : TE) (H : AH) : codeP PP CC (subC (bodyC PP 25) [1, 1, 0, 1, 0]) (m_best_Ofttht_k K) a H = m_best_Oftthtb K (a 5) (a 10) (a 11) (a 12) H :=
  have h1 : codeP PP CC (subC (bodyC PP 25) [1, 1, 0, 1, 0]) (m_best_Ofttht_k K) a H = loopP (fun (rec : KE) => codeP PP CC (subC (bodyC PP 25) [1, 1, 0, 1, 0, 0]) (exP rec (m_best_Ofttht_k K))) a H := by kernel_rfl
  have h2 := loopP_iso (F := fun (rec : KE) => codeP PP CC (subC (bodyC PP 25) [1, 1, 0, 1, 0, 0]) (exP rec (m_best_Ofttht_k K))) (S := (AV × AV × AV × AV)) (fun a => (a 5, a 10, a 11, a 12)) (fun (r0 : (AV × AV × AV × AV) → AH → Prop) (s : (AV × AV × AV × AV)) (H : AH) => m_best_Oftthtbl K r0 s.1 s.2.1 s.2.2.1 s.2.2.2 H) (fun (r0 : (AV × AV × AV × AV) → AH → Prop) (a : TE) (H : AH) => (show codeP PP CC (subC (bodyC PP 25) [1, 1, 0, 1, 0, 0]) (exP (fun (a : TE) (H : AH) => r0 (a 5, a 10, a 11, a 12) H) (m_best_Ofttht_k K)) a H = codeP PP CC (subC (bodyC PP 25) [1, 1, 0, 1, 0, 0]) (m_best_Oftthtb_k K r0) a H from by kernel_rfl).trans (m_best_Oftthtbl_eq K r0 a H)) a H
  h1.trans h2
theorem m_best_Ofttht_eq (K : AV → AH → Prop) (a : TE) (H : AH) : codeP PP CC (subC (bodyC PP 25) [1, 1, 0, 1]) (m_best_Oftt_k K) a H = m_best_Oftthtb K (a 5) (a 10) (a 11) (a 12) H :=
  have h1 : codeP PP CC (subC (bodyC PP 25) [1, 1, 0, 1]) (m_best_Oftt_k K) a H = codeP PP CC (subC (bodyC PP 25) [1, 1, 0, 1, 0]) (m_best_Ofttht_k K) a H := by kernel_rfl
  h1.trans (m_best_Oftthtb_eq K a H)
abbrev m_best_Oftth_k (K : AV → AH → Prop) : KP := exP (fun (a : TE) (H : AH) => m_best_Oftthtb K (a 5) (a 10) (a 11) (a 12) H) (m_best_Oftt_k K)
def m_best_Oftth (K : AV → AH → Prop) (x1 x5 : AV) (H : AH) : Prop :=
  outP CC H (w_len PP 32 H x1) fun v1 H1 =>
  m_best_Oftthtb K x5 x1 v1 (.int .i64 0) H1
theorem m_best_Oftth_eq (K : AV → AH → Prop) (a : TE) (H : AH) : codeP PP CC (subC (bodyC PP 25) [1, 1, 0]) (m_best_Oftt_k K) a H = m_best_Oftth K (a 1) (a 5) H :=
  have h1 : codeP PP CC (subC (bodyC PP 25) [1, 1, 0]) (m_best_Oftt_k K) a H = codeP PP CC (subC (bodyC PP 25) [1, 1, 0, 0]) (exP (codeP PP CC (subC (bodyC PP 25) [1, 1, 0, 1]) (m_best_Oftt_k K)) (m_best_Oftt_k K)) a H := by kernel_rfl
  have h2 : codeP PP CC (subC (bodyC PP 25) [1, 1, 0, 0]) (exP (codeP PP CC (subC (bodyC PP 25) [1, 1, 0, 1]) (m_best_Oftt_k K)) (m_best_Oftt_k K)) a H = codeP PP CC (subC (bodyC PP 25) [1, 1, 0, 0]) (exP (fun (a : TE) (H : AH) => m_best_Oftthtb K (a 5) (a 10) (a 11) (a 12) H) (m_best_Oftt_k K)) a H := congrArg (fun k : KE => codeP PP CC (subC (bodyC PP 25) [1, 1, 0, 0]) (exP k (m_best_Oftt_k K)) a H) (funext fun a => funext fun H => m_best_Ofttht_eq K a H)
  have h2b : codeP PP CC (subC (bodyC PP 25) [1, 1, 0, 0]) (exP (fun (a : TE) (H : AH) => m_best_Oftthtb K (a 5) (a 10) (a 11) (a 12) H) (m_best_Oftt_k K)) a H = codeP PP CC (subC (bodyC PP 25) [1, 1, 0, 0]) (m_best_Oftth_k K) a H := by kernel_rfl
  have h3 : codeP PP CC (subC (bodyC PP 25) [1, 1, 0, 0]) (m_best_Oftth_k K) a H = m_best_Oftth K (a 1) (a 5) H := by kernel_rfl
  ((h1.trans h2).trans h2b).trans h3
theorem m_best_Oftt_eq (K : AV → AH → Prop) (a : TE) (H : AH) : codeP PP CC (subC (bodyC PP 25) [1, 1]) (m_best_Of_K K) a H = m_best_Oftth K (a 1) (a 5) H :=
  have h1 : codeP PP CC (subC (bodyC PP 25) [1, 1]) (m_best_Of_K K) a H = codeP PP CC (subC (bodyC PP 25) [1, 1, 0]) (m_best_Oftt_k K) a H := by kernel_rfl
  h1.trans (m_best_Oftth_eq K a H)
abbrev m_best_Oft_k (K : AV → AH → Prop) : KP := exP (fun (a : TE) (H : AH) => m_best_Oftth K (a 1) (a 5) H) (m_best_Of_K K)
def m_best_Oft (K : AV → AH → Prop) (x0 x1 : AV) (H : AH) : Prop :=
  outP CC H (some (.enter 20 [x0])) fun v1 H1 =>
  m_best_Oftth K x1 v1 H1
theorem m_best_Oft_eq (K : AV → AH → Prop) (a : TE) (H : AH) : codeP PP CC (subC (bodyC PP 25) [1]) (m_best_Of_K K) a H = m_best_Oft K (a 0) (a 1) H :=
  have h1 : codeP PP CC (subC (bodyC PP 25) [1]) (m_best_Of_K K) a H = codeP PP CC (subC (bodyC PP 25) [1, 0]) (exP (codeP PP CC (subC (bodyC PP 25) [1, 1]) (m_best_Of_K K)) (m_best_Of_K K)) a H := by kernel_rfl
  have h2 : codeP PP CC (subC (bodyC PP 25) [1, 0]) (exP (codeP PP CC (subC (bodyC PP 25) [1, 1]) (m_best_Of_K K)) (m_best_Of_K K)) a H = codeP PP CC (subC (bodyC PP 25) [1, 0]) (exP (fun (a : TE) (H : AH) => m_best_Oftth K (a 1) (a 5) H) (m_best_Of_K K)) a H := congrArg (fun k : KE => codeP PP CC (subC (bodyC PP 25) [1, 0]) (exP k (m_best_Of_K K)) a H) (funext fun a => funext fun H => m_best_Oftt_eq K a H)
  have h2b : codeP PP CC (subC (bodyC PP 25) [1, 0]) (exP (fun (a : TE) (H : AH) => m_best_Oftth K (a 1) (a 5) H) (m_best_Of_K K)) a H = codeP PP CC (subC (bodyC PP 25) [1, 0]) (m_best_Oft_k K) a H := by kernel_rfl
  have h3 : codeP PP CC (subC (bodyC PP 25) [1, 0]) (m_best_Oft_k K) a H = m_best_Oft K (a 0) (a 1) H := by kernel_rfl
  ((h1.trans h2).trans h2b).trans h3
abbrev m_best_Of_k (K : AV → AH → Prop) : KP := exP (fun (a : TE) (H : AH) => m_best_Oft K (a 0) (a 1) H) (m_best_Of_K K)
def m_best_Of (K : AV → AH → Prop) (x0 x1 : AV) (H : AH) : Prop :=
  m_best_Oft K x0 x1 H
theorem m_best_Of_eq (K : AV → AH → Prop) (a : TE) (H : AH) : codeP PP CC (subC (bodyC PP 25) []) (m_best_Of_K K) a H = m_best_Of K (a 0) (a 1) H :=
  have h1 : codeP PP CC (subC (bodyC PP 25) []) (m_best_Of_K K) a H = codeP PP CC (subC (bodyC PP 25) [0]) (exP (codeP PP CC (subC (bodyC PP 25) [1]) (m_best_Of_K K)) (m_best_Of_K K)) a H := by kernel_rfl
  have h2 : codeP PP CC (subC (bodyC PP 25) [0]) (exP (codeP PP CC (subC (bodyC PP 25) [1]) (m_best_Of_K K)) (m_best_Of_K K)) a H = codeP PP CC (subC (bodyC PP 25) [0]) (exP (fun (a : TE) (H : AH) => m_best_Oft K (a 0) (a 1) H) (m_best_Of_K K)) a H := congrArg (fun k : KE => codeP PP CC (subC (bodyC PP 25) [0]) (exP k (m_best_Of_K K)) a H) (funext fun a => funext fun H => m_best_Oft_eq K a H)
  have h2b : codeP PP CC (subC (bodyC PP 25) [0]) (exP (fun (a : TE) (H : AH) => m_best_Oft K (a 0) (a 1) H) (m_best_Of_K K)) a H = codeP PP CC (subC (bodyC PP 25) [0]) (m_best_Of_k K) a H := by kernel_rfl
  have h3 : codeP PP CC (subC (bodyC PP 25) [0]) (m_best_Of_k K) a H = m_best_Of K (a 0) (a 1) H := by kernel_rfl
  ((h1.trans h2).trans h2b).trans h3
theorem m_best_Of_ok (x0 x1 : AV) (H : AH) (K : AV → AH → Prop) (h : m_best_Of K x0 x1 H) : CC.call 25 [x0, x1] H K :=
  have h1 : funP PP CC 25 [x0, x1] H K = codeP PP CC (subC (bodyC PP 25) []) (m_best_Of_K K) (argE [x0, x1]) H := by kernel_rfl
  have h2 : m_best_Of K (argE [x0, x1] 0) (argE [x0, x1] 1) H = m_best_Of K x0 x1 H := by kernel_rfl
  funP_ok (P := PP) (by kernel_rfl) (by kernel_rfl) ((h1.trans ((m_best_Of_eq K (argE [x0, x1]) H).trans h2)).mpr h)

/-! 26: fieldfare/metric.Less -/
abbrev m_metric_Less_K (K : AV → AH → Prop) : KP := finP PP (resC PP 26) K
def m_metric_Less (K : AV → AH → Prop) (x0 x1 : AV) (H : AH) : Prop :=
  outP CC H (w_box 37 H x0 none) fun v1 H1 =>
  outP CC H1 (w_box 37 H1 x1 none) fun v2 H2 =>
  outP CC H2 (w_fieldAddr 1 H2 v1) fun v3 H3 =>
  outP CC H3 (w_load none H3 v3) fun v4 H4 =>
  outP CC H4 (w_fieldAddr 1 H4 v2) fun v5 H5 =>
  outP CC H5 (w_load none H5 v5) fun v6 H6 =>
  outP CC H6 (w_int .neq H6 v4 v6) fun v7 H7 =>
  condP v7
  (outP CC H7 (w_fieldAddr 1 H7 v1) fun v8 H8 =>
  outP CC H8 (w_load none H8 v8) fun v9 H9 =>
  outP CC H9 (w_fieldAddr 1 H9 v2) fun v10 H10 =>
  outP CC H10 (w_load none H10 v10) fun v11 H11 =>
  outP CC H11 (w_int .lss H11 v9 v11) fun v12 H12 =>
  K v12 H12)
  (outP CC H7 (w_fieldAddr 0 H7 v1) fun v13 H13 =>
  outP CC H13 (w_load none H13 v13) fun v14 H14 =>
  outP CC H14 (w_fieldAddr 0 H14 v2) fun v15 H15 =>
  outP CC H15 (w_load none H15 v15) fun v16 H16 =>
  outP CC H16 (w_int .lss H16 v14 v16) fun v17 H17 =>
  K v17 H17)
theorem m_metric_Less_eq (K : AV → AH → Prop) (a : TE) (H : AH) : codeP PP CC (subC (bodyC PP 26) []) (m_metric_Less_K K) a H = m_metric_Less K (a 0) (a 1) H :=
  by kernel_rfl
theorem m_metric_Less_ok (x0 x1 : AV) (H : AH) (K : AV → AH → Prop) (h : m_metric_Less K x0 x1 H) : CC.call 26 [x0, x1] H K :=
  have h1 : funP PP CC 26 [x0, x1] H K = codeP PP CC (subC (bodyC PP 26) []) (m_metric_Less_K K) (argE [x0, x1]) H := by kernel_rfl
  have h2 : m_metric_Less K (argE [x0, x1] 0) (argE [x0, x1] 1) H = m_metric_Less K x0 x1 H := by kernel_rfl
  funP_ok (P := PP) (by kernel_rfl) (by kernel_rfl) ((h1.trans ((m_metric_Less_eq K (argE [x0, x1]) H).trans h2)).mpr h)

/-! 33: (*fieldfare/best.Best).Worst -/
abbrev m_best_Best_Worst_K (K : AV → AH → Prop) : KP := finP PP (resC PP 33) K
def m_best_Best_Worst (K : AV → AH → Prop) (x0 : AV) (H : AH) : Prop :=
  outP CC H (w_alloc 37 [(.int .i64 0), (.int .i64 0)] H none) fun v1 H1 =>
  outP CC H1 (w_eq PP .eql 33 false true H1 x0 (.ptr none)) fun v2 H2 =>
  guardP (boolIs false v2) H2 (outP CC H2 (some (.val x0 H2))) fun v3 H3 =>
  guardP (boolIs false v2) H3 (outP CC H3 (w_nil H3 v3)) fun v4 H4 =>
  guardP (boolIs false v2) H4 (outP CC H4 (w_fieldAddr 1 H4 v4)) fun v5 H5 =>
  guardP (boolIs false v2) H5 (outP CC H5 (w_load none H5 v5)) fun v6 H6 =>
  guardP (boolIs false v2) H6 (outP CC H6 (w_int .eql H6 v6 (.int .i64 0))) fun v7 H7 =>
  outP CC H7 (w_pick H7 v2 (.bool true) v7) fun v8 H8 =>
  guardP (boolIs false v8) H8 (outP CC H8 (some (.val x0 H8))) fun v9 H9 =>
  guardP (boolIs false v8) H9 (outP CC H9 (w_nil H9 v9)) fun v10 H10 =>
  guardP (boolIs false v8) H10 (outP CC H10 (w_fieldAddr 0 H10 v10)) fun v11 H11 =>
  guardP (boolIs false v8) H11 (outP CC H11 (w_load none H11 v11)) fun v12 H12 =>
  guardP (boolIs false v8) H12 (outP CC H12 (w_len PP 32 H12 v12)) fun v13 H13 =>
  guardP (boolIs false v8) H13 (outP CC H13 (some (.val x0 H13))) fun v14 H14 =>
  guardP (boolIs false v8) H14 (outP CC H14 (w_nil H14 v14)) fun v15 H15 =>
  guardP (boolIs false v8) H15 (outP CC H15 (w_fieldAddr 1 H15 v15)) fun v16 H16 =>
  guardP (boolIs false v8) H16 (outP CC H16 (w_load none H16 v16)) fun v17 H17 =>
  guardP (boolIs false v8) H17 (outP CC H17 (w_int .lss H17 v13 v17)) fun v18 H18 =>
  outP CC H18 (w_pick H18 v8 (.bool true) v18) fun v19 H19 =>
  condP v19
  (outP CC H19 (w_build PP 37 H19 []) fun v20 H20 =>
  outP CC H20 (w_store 2 H20 v1 v20) fun _v21 H21 =>
  endP (resR (partF (some (some 2))) H21 v1 (resT (.bool false) (some []))) K H21)
  (outP CC H19 (w_nil H19 x0) fun v22 H22 =>
  outP CC H22 (w_fieldAddr 0 H22 v22) fun v23 H23 =>
  outP CC H23 (w_load none H23 v23) fun v24 H24 =>
  outP CC H24 (w_nil H24 x0) fun v25 H25 =>
  outP CC H25 (w_fieldAddr 1 H25 v25) fun v26 H26 =>
  outP CC H26 (w_load none H26 v26) fun v27 H27 =>
  outP CC H27 (w_int .sub H27 v27 (.int .i64 1)) fun v28 H28 =>
  outP CC H28 (w_indexAddr (.sl 2) H28 v24 v28) fun v29 H29 =>
  outP CC H29 (w_load (some 2) H29 v29) fun v30 H30 =>
  outP CC H30 (w_store 2 H30 v1 v30) fun _v31 H31 =>
  endP (resR (partF (some (some 2))) H31 v1 (resT (.bool true) (some []))) K H31)
theorem m_best_Best_Worst_eq (K : AV → AH → Prop) (a : TE) (H : AH) : codeP PP CC (subC (bodyC PP 33) []) (m_best_Best_Worst_K K) a H = m_best_Best_Worst K (a 0) H :=
  by kernel_rfl
theorem m_best_Best_Worst_ok (x0 : AV) (H : AH) (K : AV → AH → Prop) (h : m_best_Best_Worst K x0 H) : CC.call 33 [x0] H K :=
  have h1 : funP PP CC 33 [x0] H K = codeP PP CC (subC (bodyC PP 33) []) (m_best_Best_Worst_K K) (argE [x0]) H := by kernel_rfl
  have h2 : m_best_Best_Worst K (argE [x0] 0) H = m_best_Best_Worst K x0 H := by kernel_rfl
  funP_ok (P := PP) (by kernel_rfl) (by kernel_rfl) ((h1.trans ((m_best_Best_Worst_eq K (argE [x0]) H).trans h2)).mpr h)

/-! 6: fieldfare/fieldfarelaw7.MetricOrder -/
abbrev m_fieldfarelaw7_MetricOrder_K (K : AV → AH → Prop) : KP := finP PP (resC PP 6) K
abbrev m_fieldfarelaw7_MetricOrdertttt_k (K : AV → AH → Prop) : KP := exP (codeP PP CC (subC (bodyC PP 6) [1, 1, 1, 1, 1]) (m_fieldfarelaw7_MetricOrder_K K)) (m_fieldfarelaw7_MetricOrder_K K)
abbrev m_fieldfarelaw7_MetricOrderttttht_k (K : AV → AH → Prop) : KP := blockP 0 (m_fieldfarelaw7_MetricOrdertttt_k K)
abbrev m_fieldfarelaw7_MetricOrdertttthtb_k (K : AV → AH → Prop) (r0 : (AV × AV × AV × AV × AV) → AH → Prop) : KP := exP (fun (a : TE) (H : AH) => r0 (a 3, a 4, a 5, a 8, a 9) H) (m_fieldfarelaw7_MetricOrderttttht_k K)
def m_fieldfarelaw7_MetricOrdertttthtbl (K : AV → AH → Prop) (r0 : (AV × AV × AV × AV × AV) → AH → Prop) (x3 x4 x5 x8 x9 : AV) (H : AH) : Prop :=
  outP CC H (w_len PP 32 H x8) fun v1 H1 =>
  outP CC H1 (w_int .lss H1 x9 v1) fun v2 H2 =>
  condP v2
  (outP CC H2 (w_int .sub H2 x9 (.int .i64 1)) fun v3 H3 =>
  outP CC H3 (w_indexAddr (.sl 2) H3 x8 v3) fun v4 H4 =>
  outP CC H4 (w_load (some 2) H4 v4) fun v5 H5 =>
  outP CC H5 (w_indexAddr (.sl 2) H5 x8 x9) fun v6 H6 =>
  outP CC H6 (w_load (some 2) H6 v6) fun v7 H7 =>
  outP CC H7 (some (.enter 26 [v5, v7])) fun v8 H8 =>
  outP CC H8 (w_un .not H8 v8) fun v9 H9 =>
  condP v9
  (K (.bool false) H9)
  (outP CC H9 (w_int .add H9 x9 (.int .i64 1)) fun v10 H10 =>
  r0 (x3, x4, x5, x8, v10) H10))
  (outP CC H2 (w_load (some 2) H2 x3) fun v11 H11 =>
  outP CC H11 (w_load (some 2) H11 x4) fun v12 H12 =>
  outP CC H12 (some (.enter 26 [v11, v12])) fun v13 H13 =>
  guardP (boolIs true v13) H13 (outP CC H13 (w_load (some 2) H13 x4)) fun v14 H14 =>
  guardP (boolIs true v13) H14 (outP CC H14 (w_load (some 2) H14 x5)) fun v15 H15 =>
  guardP (boolIs true v13) H15 (outP CC H15 (some (.enter 26 [v14, v15]))) fun v16 H16 =>
  outP CC H16 (w_pick H16 v13 v16 (.bool false)) fun v17 H17 =>
  outP CC H17 (w_un .not H17 v17) fun v18 H18 =>
  guardP (boolIs false v18) H18 (outP CC H18 (w_load (some 2) H18 x3)) fun v19 H19 =>
  guardP (boolIs false v18) H19 (outP CC H19 (w_load (some 2) H19 x5)) fun v20 H20 =>
  guardP (boolIs false v18) H20 (outP CC H20 (some (.enter 26 [v19, v20]))) fun v21 H21 =>
  outP CC H21 (w_pick H21 v18 (.bool true) v21) fun v22 H22 =>
  K v22 H22)
theorem m_fieldfarelaw7_MetricOrdertttthtbl_eq (K : AV → AH → Prop) (r0 : (AV × AV × AV × AV × AV) → AH → Prop) (a : TE) (H : AH) : codeP PP CC (subC (bodyC PP 6) [1, 1, 1, 1, 0, 1, 0, 0]) (m_fieldfarelaw7_MetricOrdertttthtb_k K r0) a H = m_fieldfarelaw7_MetricOrdertttthtbl K r0 (a 3) (a 4) (a 5) (a 8) (a 9) H :=
  by kernel_rfl
def m_fieldfarelaw7_MetricOrdertttthtb (K : AV → AH → Prop) (x3 x4 x5 x8 x9 : AV) (H : AH) : Prop :=
  loopP (fun (r0 : (AV × AV × AV × AV × AV) → AH → Prop) (s : (AV × AV × AV × AV × AV)) (H : AH) => m_fieldfarelaw7_MetricOrdertttthtbl K r0 s.1 s.2.1 s.2.2.1 s.2.2.2.1 s.2.2.2.2 H) (x3, x4, x5, x8, x9) H
theorem m_fieldfarelaw7_MetricOrdertttthtb_eq (K : AV → AH → Prop) (a : TE) (H : AH) : codeP PP CC (subC (bodyC PP 6) [1, 1, 1, 1, 0, 1, 0]) (m_fieldfarelaw7_MetricOrderttttht_k K) a H = m_fieldfarelaw7_MetricOrdertttthtb K (a 3) (a 4) (a 5) (a 8) (a 9) H :=
  have h1 : codeP PP CC (subC (bodyC PP 6) [1, 1, 1, 1, 0, 1, 0]) (m_fieldfarelaw7_MetricOrderttttht_k K) a H = loopP (fun (rec : KE) => codeP PP CC (subC (bodyC PP 6) [1, 1, 1, 1, 0, 1, 0, 0]) (exP rec (m_fieldfarelaw7_MetricOrderttttht_k K))) a H := by kernel_rfl
  have h2 := loopP_iso (F := fun (rec : KE) => codeP PP CC (subC (bodyC PP 6) [1, 1, 1, 1, 0, 1, 0, 0]) (exP rec (m_fieldfarelaw7_MetricOrderttttht_k K))) (S := (AV × AV × AV × AV × AV)) (fun a => (a 3, a 4, a 5, a 8, a 9)) (fun (r0 : (AV × AV × AV × AV × AV) → AH → Prop) (s : (AV × AV × AV × AV × AV)) (H : AH) => m_fieldfarelaw7_MetricOrdertttthtbl K r0 s.1 s.2.1 s.2.2.1 s.2.2.2.1 s.2.2.2.2 H) (fun (r0 : (AV × AV × AV × AV × AV) → AH → Prop) (a : TE) (H : AH) => (show codeP PP CC (subC (bodyC PP 6) [1, 1, 1, 1, 0, 1, 0, 0]) (exP (fun (a : TE) (H : AH) => r0 (a 3, a 4, a 5, a 8, a 9) H) (m_fieldfarelaw7_MetricOrderttttht_k K)) a H = codeP PP CC (subC (bodyC PP 6) [1, 1, 1, 1, 0, 1, 0, 0]) (m_fieldfarelaw7_MetricOrdertttthtb_k K r0) a H from by kernel_rfl).trans (m_fieldfarelaw7_MetricOrdertttthtbl_eq K r0 a H)) a H
  h1.trans h2
theorem m_fieldfarelaw7_MetricOrderttttht_eq (K : AV → AH → Prop) (a : TE) (H : AH) : codeP PP CC (subC (bodyC PP 6) [1, 1, 1, 1, 0, 1]) (m_fieldfarelaw7_MetricOrdertttt_k K) a H = m_fieldfarelaw7_MetricOrdertttthtb K (a 3) (a 4) (a 5) (a 8) (a 9) H :=
  have h1 : codeP PP CC (subC (bodyC PP 6) [1, 1, 1, 1, 0, 1]) (m_fieldfarelaw7_MetricOrdertttt_k K) a H = codeP PP CC (subC (bodyC PP 6) [1, 1, 1, 1, 0, 1, 0]) (m_fieldfarelaw7_MetricOrderttttht_k K) a H := by kernel_rfl
  h1.trans (m_fieldfarelaw7_MetricOrdertttthtb_eq K a H)
abbrev m_fieldfarelaw7_MetricOrdertttth_k (K : AV → AH → Prop) : KP := exP (fun (a : TE) (H : AH) => m_fieldfarelaw7_MetricOrdertttthtb K (a 3) (a 4) (a 5) (a 8) (a 9) H) (m_fieldfarelaw7_MetricOrdertttt_k K)
def m_fieldfarelaw7_MetricOrdertttth (K : AV → AH → Prop) (x3 x4 x5 x8 : AV) (H : AH) : Prop :=
  m_fieldfarelaw7_MetricOrdertttthtb K x3 x4 x5 x8 (.int .i64 1) H
theorem m_fieldfarelaw7_MetricOrdertttth_eq (K : AV → AH → Prop) (a : TE) (H : AH) : codeP PP CC (subC (bodyC PP 6) [1, 1, 1, 1, 0]) (m_fieldfarelaw7_MetricOrdertttt_k K) a H = m_fieldfarelaw7_MetricOrdertttth K (a 3) (a 4) (a 5) (a 8) H :=
  have h1 : codeP PP CC (subC (bodyC PP 6) [1, 1, 1, 1, 0]) (m_fieldfarelaw7_MetricOrdertttt_k K) a H = codeP PP CC (subC (bodyC PP 6) [1, 1, 1, 1, 0, 0]) (exP (codeP PP CC (subC (bodyC PP 6) [1, 1, 1, 1, 0, 1]) (m_fieldfarelaw7_MetricOrdertttt_k K)) (m_fieldfarelaw7_MetricOrdertttt_k K)) a H := by kernel_rfl
  have h2 : codeP PP CC (subC (bodyC PP 6) [1, 1, 1, 1, 0, 0]) (exP (codeP PP CC (subC (bodyC PP 6) [1, 1, 1, 1, 0, 1]) (m_fieldfarelaw7_MetricOrdertttt_k K)) (m_fieldfarelaw7_MetricOrdertttt_k K)) a H = codeP PP CC (subC (bodyC PP 6) [1, 1, 1, 1, 0, 0]) (exP (fun (a : TE) (H : AH) => m_fieldfarelaw7_MetricOrdertttthtb K (a 3) (a 4) (a 5) (a 8) (a 9) H) (m_fieldfarelaw7_MetricOrdertttt_k K)) a H := congrArg (fun k : KE => codeP PP CC (subC (bodyC PP 6) [1, 1, 1, 1, 0, 0]) (exP k (m_fieldfarelaw7_MetricOrdertttt_k K)) a H) (funext fun a => funext fun H => m_fieldfarelaw7_MetricOrderttttht_eq K a H)
  have h2b : codeP PP CC (subC (bodyC PP 6) [1, 1, 1, 1, 0, 0]) (exP (fun (a : TE) (H : AH) => m_fieldfarelaw7_MetricOrdertttthtb K (a 3) (a 4) (a 5) (a 8) (a 9) H) (m_fieldfarelaw7_MetricOrdertttt_k K)) a H = codeP PP CC (subC (bodyC PP 6) [1, 1, 1, 1, 0, 0]) (m_fieldfarelaw7_MetricOrdertttth_k K) a H := by kernel_rfl
  have h3 : codeP PP CC (subC (bodyC PP 6) [1, 1, 1, 1, 0, 0]) (m_fieldfarelaw7_MetricOrdertttth_k K) a H = m_fieldfarelaw7_MetricOrdertttth K (a 3) (a 4) (a 5) (a 8) H := by kernel_rfl
  ((h1.trans h2).trans h2b).trans h3
theorem m_fieldfarelaw7_MetricOrdertttt_eq (K : AV → AH → Prop) (a : TE) (H : AH) : codeP PP CC (subC (bodyC PP 6) [1, 1, 1, 1]) (m_fieldfarelaw7_MetricOrder_K K) a H = m_fieldfarelaw7_MetricOrdertttth K (a 3) (a 4) (a 5) (a 8) H :=
  have h1 : codeP PP CC (subC (bodyC PP 6) [1, 1, 1, 1]) (m_fieldfarelaw7_MetricOrder_K K) a H = codeP PP CC (subC (bodyC PP 6) [1, 1, 1, 1, 0]) (m_fieldfarelaw7_MetricOrdertttt_k K) a H := by kernel_rfl
  h1.trans (m_fieldfarelaw7_MetricOrdertttth_eq K a H)
abbrev m_fieldfarelaw7_MetricOrderttt_k (K : AV → AH → Prop) : KP := exP (fun (a : TE) (H : AH) => m_fieldfarelaw7_MetricOrdertttth K (a 3) (a 4) (a 5) (a 8) H) (m_fieldfarelaw7_MetricOrder_K K)
def m_fieldfarelaw7_MetricOrderttt (K : AV → AH → Prop) (x3 x4 x5 : AV) (H : AH) : Prop :=
  outP CC H (w_load (some 2) H x3) fun v1 H1 =>
  outP CC H1 (w_load (some 2) H1 x4) fun v2 H2 =>
  outP CC H2 (w_load (some 2) H2 x5) fun v3 H3 =>
  outP CC H3 (w_buildSlice PP 37 3 H3 [(0, v1), (1, v2), (2, v3)] none) fun v4 H4 =>
  outP CC H4 (some (.enter 25 [(.int .i64 3), v4])) fun v5 H5 =>
  m_fieldfarelaw7_MetricOrdertttth K x3 x4 x5 v5 H5
theorem m_fieldfarelaw7_MetricOrderttt_eq (K : AV → AH → Prop) (a : TE) (H : AH) : codeP PP CC (subC (bodyC PP 6) [1, 1, 1]) (m_fieldfarelaw7_MetricOrder_K K) a H = m_fieldfarelaw7_MetricOrderttt K (a 3) (a 4) (a 5) H :=
  have h1 : codeP PP CC (subC (bodyC PP 6) [1, 1, 1]) (m_fieldfarelaw7_MetricOrder_K K) a H = codeP PP CC (subC (bodyC PP 6) [1, 1, 1, 0]) (exP (codeP PP CC (subC (bodyC PP 6) [1, 1, 1, 1]) (m_fieldfarelaw7_MetricOrder_K K)) (m_fieldfarelaw7_MetricOrder_K K)) a H := by kernel_rfl
  have h2 : codeP PP CC (subC (bodyC PP 6) [1, 1, 1, 0]) (exP (codeP PP CC (subC (bodyC PP 6) [1, 1, 1, 1]) (m_fieldfarelaw7_MetricOrder_K K)) (m_fieldfarelaw7_MetricOrder_K K)) a H = codeP PP CC (subC (bodyC PP 6) [1, 1, 1, 0]) (exP (fun (a : TE) (H : AH) => m_fieldfarelaw7_MetricOrdertttth K (a 3) (a 4) (a 5) (a 8) H) (m_fieldfarelaw7_MetricOrder_K K)) a H := congrArg (fun k : KE => codeP PP CC (subC (bodyC PP 6) [1, 1, 1, 0]) (exP k (m_fieldfarelaw7_MetricOrder_K K)) a H) (funext fun a => funext fun H => m_fieldfarelaw7_MetricOrdertttt_eq K a H)
  have h2b : codeP PP CC (subC (bodyC PP 6) [1, 1, 1, 0]) (exP (fun (a : TE) (H : AH) => m_fieldfarelaw7_MetricOrdertttth K (a 3) (a 4) (a 5) (a 8) H) (m_fieldfarelaw7_MetricOrder_K K)) a H = codeP PP CC (subC (bodyC PP 6) [1, 1, 1, 0]) (m_fieldfarelaw7_MetricOrderttt_k K) a H := by kernel_rfl
  have h3 : codeP PP CC (subC (bodyC PP 6) [1, 1, 1, 0]) (m_fieldfarelaw7_MetricOrderttt_k K) a H = m_fieldfarelaw7_MetricOrderttt K (a 3) (a 4) (a 5) H := by kernel_rfl
  ((h1.trans h2).trans h2b).trans h3
abbrev m_fieldfarelaw7_MetricOrdertt_k (K : AV → AH → Prop) : KP := exP (fun (a : TE) (H : AH) => m_fieldfarelaw7_MetricOrderttt K (a 3) (a 4) (a 5) H) (m_fieldfarelaw7_MetricOrder_K K)
def m_fieldfarelaw7_MetricOrdertt (K : AV → AH → Prop) (x3 x4 x5 x7 : AV) (H : AH) : Prop :=
  outP CC H (w_un .not H x7) fun v1 H1 =>
  condP v1
  (K (.bool false) H1)
  (m_fieldfarelaw7_MetricOrderttt K x3 x4 x5 H1)
theorem m_fieldfarelaw7_MetricOrdertt_eq (K : AV → AH → Prop) (a : TE) (H : AH) : codeP PP CC (subC (bodyC PP 6) [1, 1]) (m_fieldfarelaw7_MetricOrder_K K) a H = m_fieldfarelaw7_MetricOrdertt K (a 3) (a 4) (a 5) (a 7) H :=
  have h1 : codeP PP CC (subC (bodyC PP 6) [1, 1]) (m_fieldfarelaw7_MetricOrder_K K) a H = codeP PP CC (subC (bodyC PP 6) [1, 1, 0]) (exP (codeP PP CC (subC (bodyC PP 6) [1, 1, 1]) (m_fieldfarelaw7_MetricOrder_K K)) (m_fieldfarelaw7_MetricOrder_K K)) a H := by kernel_rfl
  have h2 : codeP PP CC (subC (bodyC PP 6) [1, 1, 0]) (exP (codeP PP CC (subC (bodyC PP 6) [1, 1, 1]) (m_fieldfarelaw7_MetricOrder_K K)) (m_fieldfarelaw7_MetricOrder_K K)) a H = codeP PP CC (subC (bodyC PP 6) [1, 1, 0]) (exP (fun (a : TE) (H : AH) => m_fieldfarelaw7_MetricOrderttt K (a 3) (a 4) (a 5) H) (m_fieldfarelaw7_MetricOrder_K K)) a H := congrArg (fun k : KE => codeP PP CC (subC (bodyC PP 6) [1, 1, 0]) (exP k (m_fieldfarelaw7_MetricOrder_K K)) a H) (funext fun a => funext fun H => m_fieldfarelaw7_MetricOrderttt_eq K a H)
  have h2b : codeP PP CC (subC (bodyC PP 6) [1, 1, 0]) (exP (fun (a : TE) (H : AH) => m_fieldfarelaw7_MetricOrderttt K (a 3) (a 4) (a 5) H) (m_fieldfarelaw7_MetricOrder_K K)) a H = codeP PP CC (subC (bodyC PP 6) [1, 1, 0]) (m_fieldfarelaw7_MetricOrdertt_k K) a H := by kernel_rfl
  have h3 : codeP PP CC (subC (bodyC PP 6) [1, 1, 0]) (m_fieldfarelaw7_MetricOrdertt_k K) a H = m_fieldfarelaw7_MetricOrdertt K (a 3) (a 4) (a 5) (a 7) H := by kernel_rfl
  ((h1.trans h2).trans h2b).trans h3
abbrev m_fieldfarelaw7_MetricOrdert_k (K : AV → AH → Prop) : KP := exP (fun (a : TE) (H : AH) => m_fieldfarelaw7_MetricOrdertt K (a 3) (a 4) (a 5) (a 7) H) (m_fieldfarelaw7_MetricOrder_K K)
def m_fieldfarelaw7_MetricOrdert (K : AV → AH → Prop) (x3 x4 x5 : AV) (H : AH) : Prop :=
  outP CC H (some (.enter 14 [])) fun v1 H1 =>
  m_fieldfarelaw7_MetricOrdertt K x3 x4 x5 v1 H1
theorem m_fieldfarelaw7_MetricOrdert_eq (K : AV → AH → Prop) (a : TE) (H : AH) : codeP PP CC (subC (bodyC PP 6) [1]) (m_fieldfarelaw7_MetricOrder_K K) a H = m_fieldfarelaw7_MetricOrdert K (a 3) (a 4) (a 5) H :=
  have h1 : codeP PP CC (subC (bodyC PP 6) [1]) (m_fieldfarelaw7_MetricOrder_K K) a H = codeP PP CC (subC (bodyC PP 6) [1, 0]) (exP (codeP PP CC (subC (bodyC PP 6) [1, 1]) (m_fieldfarelaw7_MetricOrder_K K)) (m_fieldfarelaw7_MetricOrder_K K)) a H := by kernel_rfl
  have h2 : codeP PP CC (subC (bodyC PP 6) [1, 0]) (exP (codeP PP CC (subC (bodyC PP 6) [1, 1]) (m_fieldfarelaw7_MetricOrder_K K)) (m_fieldfarelaw7_MetricOrder_K K)) a H = codeP PP CC (subC (bodyC PP 6) [1, 0]) (exP (fun (a : TE) (H : AH) => m_fieldfarelaw7_MetricOrdertt K (a 3) (a 4) (a 5) (a 7) H) (m_fieldfarelaw7_MetricOrder_K K)) a H := congrArg (fun k : KE => codeP PP CC (subC (bodyC PP 6) [1, 0]) (exP k (m_fieldfarelaw7_MetricOrder_K K)) a H) (funext fun a => funext fun H => m_fieldfarelaw7_MetricOrdertt_eq K a H)
  have h2b : codeP PP CC (subC (bodyC PP 6) [1, 0]) (exP (fun (a : TE) (H : AH) => m_fieldfarelaw7_MetricOrdertt K (a 3) (a 4) (a 5) (a 7) H) (m_fieldfarelaw7_MetricOrder_K K)) a H = codeP PP CC (subC (bodyC PP 6) [1, 0]) (m_fieldfarelaw7_MetricOrdert_k K) a H := by kernel_rfl
  have h3 : codeP PP CC (subC (bodyC PP 6) [1, 0]) (m_fieldfarelaw7_MetricOrdert_k K) a H = m_fieldfarelaw7_MetricOrdert K (a 3) (a 4) (a 5) H := by kernel_rfl
  ((h1.trans h2).trans h2b).trans h3
abbrev m_fieldfarelaw7_MetricOrder_k (K : AV → AH → Prop) : KP := exP (fun (a : TE) (H : AH) => m_fieldfarelaw7_MetricOrdert K (a 3) (a 4) (a 5) H) (m_fieldfarelaw7_MetricOrder_K K)
def m_fieldfarelaw7_MetricOrder (K : AV → AH → Prop) (x0 x1 x2 : AV) (H : AH) : Prop :=
  outP CC H (w_box 37 H x0 none) fun v1 H1 =>
  outP CC H1 (w_box 37 H1 x1 none) fun v2 H2 =>
  outP CC H2 (w_box 37 H2 x2 none) fun v3 H3 =>
  m_fieldfarelaw7_MetricOrdert K v1 v2 v3 H3
theorem m_fieldfarelaw7_MetricOrder_eq (K : AV → AH → Prop) (a : TE) (H : AH) : codeP PP CC (subC (bodyC PP 6) []) (m_fieldfarelaw7_MetricOrder_K K) a H = m_fieldfarelaw7_MetricOrder K (a 0) (a 1) (a 2) H :=
  have h1 : codeP PP CC (subC (bodyC PP 6) []) (m_fieldfarelaw7_MetricOrder_K K) a H = codeP PP CC (subC (bodyC PP 6) [0]) (exP (codeP PP CC (subC (bodyC PP 6) [1]) (m_fieldfarelaw7_MetricOrder_K K)) (m_fieldfarelaw7_MetricOrder_K K)) a H := by kernel_rfl
  have h2 : codeP PP CC (subC (bodyC PP 6) [0]) (exP (codeP PP CC (subC (bodyC PP 6) [1]) (m_fieldfarelaw7_MetricOrder_K K)) (m_fieldfarelaw7_MetricOrder_K K)) a H = codeP PP CC (subC (bodyC PP 6) [0]) (exP (fun (a : TE) (H : AH) => m_fieldfarelaw7_MetricOrdert K (a 3) (a 4) (a 5) H) (m_fieldfarelaw7_MetricOrder_K K)) a H := congrArg (fun k : KE => codeP PP CC (subC (bodyC PP 6) [0]) (exP k (m_fieldfarelaw7_MetricOrder_K K)) a H) (funext fun a => funext fun H => m_fieldfarelaw7_MetricOrdert_eq K a H)
  have h2b : codeP PP CC (subC (bodyC PP 6) [0]) (exP (fun (a : TE) (H : AH) => m_fieldfarelaw7_MetricOrdert K (a 3) (a 4) (a 5) H) (m_fieldfarelaw7_MetricOrder_K K)) a H = codeP PP CC (subC (bodyC PP 6) [0]) (m_fieldfarelaw7_MetricOrder_k K) a H := by kernel_rfl
  have h3 : codeP PP CC (subC (bodyC PP 6) [0]) (m_fieldfarelaw7_MetricOrder_k K) a H = m_fieldfarelaw7_MetricOrder K (a 0) (a 1) (a 2) H := by kernel_rfl
  ((h1.trans h2).trans h2b).trans h3
theorem m_fieldfarelaw7_MetricOrder_ok (x0 x1 x2 : AV) (H : AH) (K : AV → AH → Prop) (h : m_fieldfarelaw7_MetricOrder K x0 x1 x2 H) : CC.call 6 [x0, x1, x2] H K :=
  have h1 : funP PP CC 6 [x0, x1, x2] H K = codeP PP CC (subC (bodyC PP 6) []) (m_fieldfarelaw7_MetricOrder_K K) (argE [x0, x1, x2]) H := by kernel_rfl
  have h2 : m_fieldfarelaw7_MetricOrder K (argE [x0, x1, x2] 0) (argE [x0, x1, x2] 1) (argE [x0, x1, x2] 2) H = m_fieldfarelaw7_MetricOrder K x0 x1 x2 H := by kernel_rfl
  funP_ok (P := PP) (by kernel_rfl) (by kernel_rfl) ((h1.trans ((m_fieldfarelaw7_MetricOrder_eq K (argE [x0, x1, x2]) H).trans h2)).mpr h)

end
end Go.Ab
