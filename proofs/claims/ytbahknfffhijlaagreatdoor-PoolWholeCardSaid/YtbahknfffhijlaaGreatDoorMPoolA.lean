/- What functions do, said as what the evaluator does. Printed by a program. -/
import Derived.Test.YtbahknfffhijlaaGreatDoorBeg
import Derived.Test.YtbahknfffhijlaaGreatDoorEv3
namespace Go.Ab
noncomputable section
open Go.Proofs
set_option maxRecDepth 100000



/-! 5: fieldfare/pool.New -/
abbrev m_pool_New_K (K : AV → AH → Prop) : KP := finP PP (resC PP 5) K
abbrev m_pool_Newtt_k (K : AV → AH → Prop) : KP := exP (codeP PP CC (subC (bodyC PP 5) [1, 1, 1]) (m_pool_New_K K)) (m_pool_New_K K)
abbrev m_pool_Newttht_k (K : AV → AH → Prop) : KP := blockP 0 (m_pool_Newtt_k K)
abbrev m_pool_Newtthtb_k (K : AV → AH → Prop) (r0 : (AV × AV × AV) → AH → Prop) : KP := exP (fun (a : TE) (H : AH) => r0 (a 3, a 10, a 11) H) (m_pool_Newttht_k K)
def m_pool_Newtthtbl (K : AV → AH → Prop) (r0 : (AV × AV × AV) → AH → Prop) (x3 x10 x11 : AV) (H : AH) : Prop :=
  outP CC H (w_int .lss H x11 x10) fun v1 H1 =>
  condP v1
  (outP CC H1 (w_nil H1 x3) fun v2 H2 =>
  outP CC H2 (w_fieldAddr 0 H2 v2) fun v3 H3 =>
  outP CC H3 (w_load none H3 v3) fun v4 H4 =>
  outP CC H4 (w_buildSlice PP 3 1 H4 [(0, x11)] none) fun v5 H5 =>
  outP CC H5 (w_append 3 1 8 H5 v4 v5 none) fun v6 H6 =>
  outP CC H6 (w_nil H6 x3) fun v7 H7 =>
  outP CC H7 (w_fieldAddr 0 H7 v7) fun v8 H8 =>
  outP CC H8 (w_store 1 H8 v8 v6) fun _v9 H9 =>
  outP CC H9 (w_int .add H9 x11 (.int .i64 1)) fun v10 H10 =>
  r0 (x3, x10, v10) H10)
  (K x3 H1)
theorem m_pool_Newtthtbl_eq (K : AV → AH → Prop) (r0 : (AV × AV × AV) → AH → Prop) (a : TE) (H : AH) : codeP PP CC (subC (bodyC PP 5) [1, 1, 0, 1, 0, 0]) (m_pool_Newtthtb_k K r0) a H = m_pool_Newtthtbl K r0 (a 3) (a 10) (a 11) H :=
  by kernel_rfl
def m_pool_Newtthtb (K : AV → AH → Prop) (x3 x10 x11 : AV) (H : AH) : Prop :=
  loopP (fun (r0 : (AV × AV × AV) → AH → Prop) (s : (AV × AV × AV)) (H : AH) => m_pool_Newtthtbl K r0 s.1 s.2.1 s.2.2 H) (x3, x10, x11) H
theorem m_pool_Newtthtb_eq (K : AV → AH → Prop) (a : TE) (H : AH) : codeP PP CC (subC (bodyC PP 5) [1, 1, 0, 1, 0]) (m_pool_Newttht_k K) a H = m_pool_Newtthtb K (a 3) (a 10) (a 11) H :=
  have h1 : codeP PP CC (subC (bodyC PP 5) [1, 1, 0, 1, 0]) (m_pool_Newttht_k K) a H = loopP (fun (rec : KE) => codeP PP CC (subC (bodyC PP 5) [1, 1, 0, 1, 0, 0]) (exP rec (m_pool_Newttht_k K))) a H := by kernel_rfl
  have h2 := loopP_iso (F := fun (rec : KE) => codeP PP CC (subC (bodyC PP 5) [1, 1, 0, 1, 0, 0]) (exP rec (m_pool_Newttht_k K))) (S := (AV × AV × AV)) (fun a => (a 3, a 10, a 11)) (fun (r0 : (AV × AV × AV) → AH → Prop) (s : (AV × AV × AV)) (H : AH) => m_pool_Newtthtbl K r0 s.1 s.2.1 s.2.2 H) (fun (r0 : (AV × AV × AV) → AH → Prop) (a : TE) (H : AH) => (show codeP PP CC (subC (bodyC PP 5) [1, 1, 0, 1, 0, 0]) (exP (fun (a : TE) (H : AH) => r0 (a 3, a 10, a 11) H) (m_pool_Newttht_k K)) a H = codeP PP CC (subC (bodyC PP 5) [1, 1, 0, 1, 0, 0]) (m_pool_Newtthtb_k K r0) a H from by kernel_rfl).trans (m_pool_Newtthtbl_eq K r0 a H)) a H
  h1.trans h2
theorem m_pool_Newttht_eq (K : AV → AH → Prop) (a : TE) (H : AH) : codeP PP CC (subC (bodyC PP 5) [1, 1, 0, 1]) (m_pool_Newtt_k K) a H = m_pool_Newtthtb K (a 3) (a 10) (a 11) H :=
  have h1 : codeP PP CC (subC (bodyC PP 5) [1, 1, 0, 1]) (m_pool_Newtt_k K) a H = codeP PP CC (subC (bodyC PP 5) [1, 1, 0, 1, 0]) (m_pool_Newttht_k K) a H := by kernel_rfl
  h1.trans (m_pool_Newtthtb_eq K a H)
abbrev m_pool_Newtth_k (K : AV → AH → Prop) : KP := exP (fun (a : TE) (H : AH) => m_pool_Newtthtb K (a 3) (a 10) (a 11) H) (m_pool_Newtt_k K)
def m_pool_Newtth (K : AV → AH → Prop) (x0 x3 : AV) (H : AH) : Prop :=
  outP CC H (w_max2 H x0 (.int .i64 0)) fun v1 H1 =>
  outP CC H1 (w_min2 H1 v1 (.int .i64 1000)) fun v2 H2 =>
  m_pool_Newtthtb K x3 v2 (.int .i64 0) H2
theorem m_pool_Newtth_eq (K : AV → AH → Prop) (a : TE) (H : AH) : codeP PP CC (subC (bodyC PP 5) [1, 1, 0]) (m_pool_Newtt_k K) a H = m_pool_Newtth K (a 0) (a 3) H :=
  have h1 : codeP PP CC (subC (bodyC PP 5) [1, 1, 0]) (m_pool_Newtt_k K) a H = codeP PP CC (subC (bodyC PP 5) [1, 1, 0, 0]) (exP (codeP PP CC (subC (bodyC PP 5) [1, 1, 0, 1]) (m_pool_Newtt_k K)) (m_pool_Newtt_k K)) a H := by kernel_rfl
  have h2 : codeP PP CC (subC (bodyC PP 5) [1, 1, 0, 0]) (exP (codeP PP CC (subC (bodyC PP 5) [1, 1, 0, 1]) (m_pool_Newtt_k K)) (m_pool_Newtt_k K)) a H = codeP PP CC (subC (bodyC PP 5) [1, 1, 0, 0]) (exP (fun (a : TE) (H : AH) => m_pool_Newtthtb K (a 3) (a 10) (a 11) H) (m_pool_Newtt_k K)) a H := congrArg (fun k : KE => codeP PP CC (subC (bodyC PP 5) [1, 1, 0, 0]) (exP k (m_pool_Newtt_k K)) a H) (funext fun a => funext fun H => m_pool_Newttht_eq K a H)
  have h2b : codeP PP CC (subC (bodyC PP 5) [1, 1, 0, 0]) (exP (fun (a : TE) (H : AH) => m_pool_Newtthtb K (a 3) (a 10) (a 11) H) (m_pool_Newtt_k K)) a H = codeP PP CC (subC (bodyC PP 5) [1, 1, 0, 0]) (m_pool_Newtth_k K) a H := by kernel_rfl
  have h3 : codeP PP CC (subC (bodyC PP 5) [1, 1, 0, 0]) (m_pool_Newtth_k K) a H = m_pool_Newtth K (a 0) (a 3) H := by kernel_rfl
  ((h1.trans h2).trans h2b).trans h3
theorem m_pool_Newtt_eq (K : AV → AH → Prop) (a : TE) (H : AH) : codeP PP CC (subC (bodyC PP 5) [1, 1]) (m_pool_New_K K) a H = m_pool_Newtth K (a 0) (a 3) H :=
  have h1 : codeP PP CC (subC (bodyC PP 5) [1, 1]) (m_pool_New_K K) a H = codeP PP CC (subC (bodyC PP 5) [1, 1, 0]) (m_pool_Newtt_k K) a H := by kernel_rfl
  h1.trans (m_pool_Newtth_eq K a H)
abbrev m_pool_Newt_k (K : AV → AH → Prop) : KP := exP (fun (a : TE) (H : AH) => m_pool_Newtth K (a 0) (a 3) H) (m_pool_New_K K)
def m_pool_Newt (K : AV → AH → Prop) (x0 : AV) (H : AH) : Prop :=
  outP CC H (w_makeMap H none) fun v1 H1 =>
  outP CC H1 (w_build PP 64 H1 [(1, v1)]) fun v2 H2 =>
  outP CC H2 (w_box 64 H2 v2 none) fun v3 H3 =>
  m_pool_Newtth K x0 v3 H3
theorem m_pool_Newt_eq (K : AV → AH → Prop) (a : TE) (H : AH) : codeP PP CC (subC (bodyC PP 5) [1]) (m_pool_New_K K) a H = m_pool_Newt K (a 0) H :=
  have h1 : codeP PP CC (subC (bodyC PP 5) [1]) (m_pool_New_K K) a H = codeP PP CC (subC (bodyC PP 5) [1, 0]) (exP (codeP PP CC (subC (bodyC PP 5) [1, 1]) (m_pool_New_K K)) (m_pool_New_K K)) a H := by kernel_rfl
  have h2 : codeP PP CC (subC (bodyC PP 5) [1, 0]) (exP (codeP PP CC (subC (bodyC PP 5) [1, 1]) (m_pool_New_K K)) (m_pool_New_K K)) a H = codeP PP CC (subC (bodyC PP 5) [1, 0]) (exP (fun (a : TE) (H : AH) => m_pool_Newtth K (a 0) (a 3) H) (m_pool_New_K K)) a H := congrArg (fun k : KE => codeP PP CC (subC (bodyC PP 5) [1, 0]) (exP k (m_pool_New_K K)) a H) (funext fun a => funext fun H => m_pool_Newtt_eq K a H)
  have h2b : codeP PP CC (subC (bodyC PP 5) [1, 0]) (exP (fun (a : TE) (H : AH) => m_pool_Newtth K (a 0) (a 3) H) (m_pool_New_K K)) a H = codeP PP CC (subC (bodyC PP 5) [1, 0]) (m_pool_Newt_k K) a H := by kernel_rfl
  have h3 : codeP PP CC (subC (bodyC PP 5) [1, 0]) (m_pool_Newt_k K) a H = m_pool_Newt K (a 0) H := by kernel_rfl
  ((h1.trans h2).trans h2b).trans h3
abbrev m_pool_New_k (K : AV → AH → Prop) : KP := exP (fun (a : TE) (H : AH) => m_pool_Newt K (a 0) H) (m_pool_New_K K)
def m_pool_New (K : AV → AH → Prop) (x0 : AV) (H : AH) : Prop :=
  m_pool_Newt K x0 H
theorem m_pool_New_eq (K : AV → AH → Prop) (a : TE) (H : AH) : codeP PP CC (subC (bodyC PP 5) []) (m_pool_New_K K) a H = m_pool_New K (a 0) H :=
  have h1 : codeP PP CC (subC (bodyC PP 5) []) (m_pool_New_K K) a H = codeP PP CC (subC (bodyC PP 5) [0]) (exP (codeP PP CC (subC (bodyC PP 5) [1]) (m_pool_New_K K)) (m_pool_New_K K)) a H := by kernel_rfl
  have h2 : codeP PP CC (subC (bodyC PP 5) [0]) (exP (codeP PP CC (subC (bodyC PP 5) [1]) (m_pool_New_K K)) (m_pool_New_K K)) a H = codeP PP CC (subC (bodyC PP 5) [0]) (exP (fun (a : TE) (H : AH) => m_pool_Newt K (a 0) H) (m_pool_New_K K)) a H := congrArg (fun k : KE => codeP PP CC (subC (bodyC PP 5) [0]) (exP k (m_pool_New_K K)) a H) (funext fun a => funext fun H => m_pool_Newt_eq K a H)
  have h2b : codeP PP CC (subC (bodyC PP 5) [0]) (exP (fun (a : TE) (H : AH) => m_pool_Newt K (a 0) H) (m_pool_New_K K)) a H = codeP PP CC (subC (bodyC PP 5) [0]) (m_pool_New_k K) a H := by kernel_rfl
  have h3 : codeP PP CC (subC (bodyC PP 5) [0]) (m_pool_New_k K) a H = m_pool_New K (a 0) H := by kernel_rfl
  ((h1.trans h2).trans h2b).trans h3
theorem m_pool_New_ok (x0 : AV) (H : AH) (K : AV → AH → Prop) (h : m_pool_New K x0 H) : CC.call 5 [x0] H K :=
  have h1 : funP PP CC 5 [x0] H K = codeP PP CC (subC (bodyC PP 5) []) (m_pool_New_K K) (argE [x0]) H := by kernel_rfl
  have h2 : m_pool_New K (argE [x0] 0) H = m_pool_New K x0 H := by kernel_rfl
  funP_ok (P := PP) (by kernel_rfl) (by kernel_rfl) ((h1.trans ((m_pool_New_eq K (argE [x0]) H).trans h2)).mpr h)

/-! 6: (*fieldfare/pool.Pool).Size -/
abbrev m_pool_Pool_Size_K (K : AV → AH → Prop) : KP := finP PP (resC PP 6) K
def m_pool_Pool_Sizetttt (K : AV → AH → Prop) (x0 x1 x7 : AV) (H : AH) : Prop :=
  outP CC H (w_nil H x0) fun v1 H1 =>
  outP CC H1 (w_fieldAddr 0 H1 v1) fun v2 H2 =>
  outP CC H2 (w_load none H2 v2) fun v3 H3 =>
  outP CC H3 (some (.enter 25 [v3])) fun v4 H4 =>
  outP CC H4 (some (.enter 24 [v4])) fun v5 H5 =>
  outP CC H5 (w_nil H5 x0) fun v6 H6 =>
  outP CC H6 (w_fieldAddr 0 H6 v6) fun v7 H7 =>
  outP CC H7 (w_store 1 H7 v7 v5) fun _v8 H8 =>
  outP CC H8 (w_nil H8 x0) fun v9 H9 =>
  outP CC H9 (w_fieldAddr 1 H9 v9) fun v10 H10 =>
  outP CC H10 (w_load none H10 v10) fun v11 H11 =>
  outP CC H11 (some (.enter 25 [x7])) fun v12 H12 =>
  ckP (reC true (w_load none H12 v10) v11) <|
  outP CC H12 (some (.enter 24 [v12])) fun v13 H13 =>
  ckP (reC true (w_load none H13 v10) v11) <|
  outP CC H13 (w_mapUpdate PP 3 31 H13 v11 x1 v13) fun _v14 H14 =>
  K (.int .i64 0) H14
theorem m_pool_Pool_Sizetttt_eq (K : AV → AH → Prop) (a : TE) (H : AH) : codeP PP CC (subC (bodyC PP 6) [1, 1, 1, 1]) (m_pool_Pool_Size_K K) a H = m_pool_Pool_Sizetttt K (a 0) (a 1) (a 7) H :=
  by kernel_rfl
abbrev m_pool_Pool_Sizettt_k (K : AV → AH → Prop) : KP := exP (fun (a : TE) (H : AH) => m_pool_Pool_Sizetttt K (a 0) (a 1) (a 7) H) (m_pool_Pool_Size_K K)
def m_pool_Pool_Sizettt (K : AV → AH → Prop) (x0 x1 x2 x7 : AV) (H : AH) : Prop :=
  outP CC H (w_int .lss H x2 (.int .i64 0)) fun v1 H1 =>
  condP v1
  (K (.int .i64 2) H1)
  (outP CC H1 (w_len PP 31 H1 x7) fun v2 H2 =>
  outP CC H2 (w_int .sub H2 x2 v2) fun v3 H3 =>
  outP CC H3 (w_nil H3 x0) fun v4 H4 =>
  outP CC H4 (w_fieldAddr 0 H4 v4) fun v5 H5 =>
  outP CC H5 (w_load none H5 v5) fun v6 H6 =>
  outP CC H6 (w_len PP 31 H6 v6) fun v7 H7 =>
  outP CC H7 (w_int .gtr H7 v3 v7) fun v8 H8 =>
  condP v8
  (K (.int .i64 6) H8)
  (outP CC H8 (w_len PP 31 H8 x7) fun v9 H9 =>
  outP CC H9 (w_int .gtr H9 x2 v9) fun v10 H10 =>
  condP v10
  (outP CC H10 (w_len PP 31 H10 x7) fun v11 H11 =>
  outP CC H11 (w_int .sub H11 x2 v11) fun v12 H12 =>
  outP CC H12 (w_nil H12 x0) fun v13 H13 =>
  outP CC H13 (w_fieldAddr 0 H13 v13) fun v14 H14 =>
  outP CC H14 (w_load none H14 v14) fun v15 H15 =>
  outP CC H15 (w_slice (.sl 1) true false H15 v15 none (some v12) none) fun v16 H16 =>
  outP CC H16 (w_append 3 1 8 H16 x7 v16 none) fun v17 H17 =>
  outP CC H17 (w_nil H17 x0) fun v18 H18 =>
  outP CC H18 (w_fieldAddr 0 H18 v18) fun v19 H19 =>
  outP CC H19 (w_load none H19 v19) fun v20 H20 =>
  outP CC H20 (w_slice (.sl 1) false false H20 v20 (some v12) none none) fun v21 H21 =>
  outP CC H21 (w_nil H21 x0) fun v22 H22 =>
  outP CC H22 (w_fieldAddr 0 H22 v22) fun v23 H23 =>
  outP CC H23 (w_store 1 H23 v23 v21) fun _v24 H24 =>
  m_pool_Pool_Sizetttt K x0 x1 v17 H24)
  (outP CC (H10.more 1) (w_nil (H10.more 1) x0) fun v25 H25 =>
  outP CC H25 (w_fieldAddr 0 H25 v25) fun v26 H26 =>
  outP CC H26 (w_load none H26 v26) fun v27 H27 =>
  outP CC H27 (w_slice (.sl 1) false false H27 x7 (some x2) none none) fun v28 H28 =>
  outP CC H28 (w_buildSlice PP 31 2 H28 [(0, v27), (1, v28)] (some (Nat.add H10.next 0))) fun v29 H29 =>
  outP CC H29 (some (.enter 23 [v29])) fun v30 H30 =>
  outP CC H30 (w_nil H30 x0) fun v31 H31 =>
  outP CC H31 (w_fieldAddr 0 H31 v31) fun v32 H32 =>
  outP CC H32 (w_store 1 H32 v32 v30) fun _v33 H33 =>
  outP CC H33 (w_slice (.sl 1) true true H33 x7 none (some x2) (some x2)) fun v34 H34 =>
  m_pool_Pool_Sizetttt K x0 x1 v34 H34)))
theorem m_pool_Pool_Sizettt_eq (K : AV → AH → Prop) (a : TE) (H : AH) : codeP PP CC (subC (bodyC PP 6) [1, 1, 1]) (m_pool_Pool_Size_K K) a H = m_pool_Pool_Sizettt K (a 0) (a 1) (a 2) (a 7) H :=
  have h1 : codeP PP CC (subC (bodyC PP 6) [1, 1, 1]) (m_pool_Pool_Size_K K) a H = codeP PP CC (subC (bodyC PP 6) [1, 1, 1, 0]) (exP (codeP PP CC (subC (bodyC PP 6) [1, 1, 1, 1]) (m_pool_Pool_Size_K K)) (m_pool_Pool_Size_K K)) a H := by kernel_rfl
  have h2 : codeP PP CC (subC (bodyC PP 6) [1, 1, 1, 0]) (exP (codeP PP CC (subC (bodyC PP 6) [1, 1, 1, 1]) (m_pool_Pool_Size_K K)) (m_pool_Pool_Size_K K)) a H = codeP PP CC (subC (bodyC PP 6) [1, 1, 1, 0]) (exP (fun (a : TE) (H : AH) => m_pool_Pool_Sizetttt K (a 0) (a 1) (a 7) H) (m_pool_Pool_Size_K K)) a H := congrArg (fun k : KE => codeP PP CC (subC (bodyC PP 6) [1, 1, 1, 0]) (exP k (m_pool_Pool_Size_K K)) a H) (funext fun a => funext fun H => m_pool_Pool_Sizetttt_eq K a H)
  have h2b : codeP PP CC (subC (bodyC PP 6) [1, 1, 1, 0]) (exP (fun (a : TE) (H : AH) => m_pool_Pool_Sizetttt K (a 0) (a 1) (a 7) H) (m_pool_Pool_Size_K K)) a H = codeP PP CC (subC (bodyC PP 6) [1, 1, 1, 0]) (m_pool_Pool_Sizettt_k K) a H := by kernel_rfl
  have h3 : codeP PP CC (subC (bodyC PP 6) [1, 1, 1, 0]) (m_pool_Pool_Sizettt_k K) a H = m_pool_Pool_Sizettt K (a 0) (a 1) (a 2) (a 7) H := by kernel_rfl
  ((h1.trans h2).trans h2b).trans h3
abbrev m_pool_Pool_Sizett_k (K : AV → AH → Prop) : KP := exP (fun (a : TE) (H : AH) => m_pool_Pool_Sizettt K (a 0) (a 1) (a 2) (a 7) H) (m_pool_Pool_Size_K K)
def m_pool_Pool_Sizett (K : AV → AH → Prop) (x0 x1 x2 : AV) (H : AH) : Prop :=
  outP CC H (w_nil H x0) fun v1 H1 =>
  outP CC H1 (w_fieldAddr 1 H1 v1) fun v2 H2 =>
  outP CC H2 (w_load none H2 v2) fun v3 H3 =>
  outP CC H3 (w_lookup PP 3 31 false H3 v3 x1) fun v4 H4 =>
  m_pool_Pool_Sizettt K x0 x1 x2 v4 H4
theorem m_pool_Pool_Sizett_eq (K : AV → AH → Prop) (a : TE) (H : AH) : codeP PP CC (subC (bodyC PP 6) [1, 1]) (m_pool_Pool_Size_K K) a H = m_pool_Pool_Sizett K (a 0) (a 1) (a 2) H :=
  have h1 : codeP PP CC (subC (bodyC PP 6) [1, 1]) (m_pool_Pool_Size_K K) a H = codeP PP CC (subC (bodyC PP 6) [1, 1, 0]) (exP (codeP PP CC (subC (bodyC PP 6) [1, 1, 1]) (m_pool_Pool_Size_K K)) (m_pool_Pool_Size_K K)) a H := by kernel_rfl
  have h2 : codeP PP CC (subC (bodyC PP 6) [1, 1, 0]) (exP (codeP PP CC (subC (bodyC PP 6) [1, 1, 1]) (m_pool_Pool_Size_K K)) (m_pool_Pool_Size_K K)) a H = codeP PP CC (subC (bodyC PP 6) [1, 1, 0]) (exP (fun (a : TE) (H : AH) => m_pool_Pool_Sizettt K (a 0) (a 1) (a 2) (a 7) H) (m_pool_Pool_Size_K K)) a H := congrArg (fun k : KE => codeP PP CC (subC (bodyC PP 6) [1, 1, 0]) (exP k (m_pool_Pool_Size_K K)) a H) (funext fun a => funext fun H => m_pool_Pool_Sizettt_eq K a H)
  have h2b : codeP PP CC (subC (bodyC PP 6) [1, 1, 0]) (exP (fun (a : TE) (H : AH) => m_pool_Pool_Sizettt K (a 0) (a 1) (a 2) (a 7) H) (m_pool_Pool_Size_K K)) a H = codeP PP CC (subC (bodyC PP 6) [1, 1, 0]) (m_pool_Pool_Sizett_k K) a H := by kernel_rfl
  have h3 : codeP PP CC (subC (bodyC PP 6) [1, 1, 0]) (m_pool_Pool_Sizett_k K) a H = m_pool_Pool_Sizett K (a 0) (a 1) (a 2) H := by kernel_rfl
  ((h1.trans h2).trans h2b).trans h3
abbrev m_pool_Pool_Sizet_k (K : AV → AH → Prop) : KP := exP (fun (a : TE) (H : AH) => m_pool_Pool_Sizett K (a 0) (a 1) (a 2) H) (m_pool_Pool_Size_K K)
def m_pool_Pool_Sizet (K : AV → AH → Prop) (x0 x1 x2 : AV) (H : AH) : Prop :=
  outP CC H (w_eq PP .eql 24 false true H x0 (.ptr none)) fun v1 H1 =>
  condP v1
  (K (.int .i64 9) H1)
  (m_pool_Pool_Sizett K x0 x1 x2 H1)
theorem m_pool_Pool_Sizet_eq (K : AV → AH → Prop) (a : TE) (H : AH) : codeP PP CC (subC (bodyC PP 6) [1]) (m_pool_Pool_Size_K K) a H = m_pool_Pool_Sizet K (a 0) (a 1) (a 2) H :=
  have h1 : codeP PP CC (subC (bodyC PP 6) [1]) (m_pool_Pool_Size_K K) a H = codeP PP CC (subC (bodyC PP 6) [1, 0]) (exP (codeP PP CC (subC (bodyC PP 6) [1, 1]) (m_pool_Pool_Size_K K)) (m_pool_Pool_Size_K K)) a H := by kernel_rfl
  have h2 : codeP PP CC (subC (bodyC PP 6) [1, 0]) (exP (codeP PP CC (subC (bodyC PP 6) [1, 1]) (m_pool_Pool_Size_K K)) (m_pool_Pool_Size_K K)) a H = codeP PP CC (subC (bodyC PP 6) [1, 0]) (exP (fun (a : TE) (H : AH) => m_pool_Pool_Sizett K (a 0) (a 1) (a 2) H) (m_pool_Pool_Size_K K)) a H := congrArg (fun k : KE => codeP PP CC (subC (bodyC PP 6) [1, 0]) (exP k (m_pool_Pool_Size_K K)) a H) (funext fun a => funext fun H => m_pool_Pool_Sizett_eq K a H)
  have h2b : codeP PP CC (subC (bodyC PP 6) [1, 0]) (exP (fun (a : TE) (H : AH) => m_pool_Pool_Sizett K (a 0) (a 1) (a 2) H) (m_pool_Pool_Size_K K)) a H = codeP PP CC (subC (bodyC PP 6) [1, 0]) (m_pool_Pool_Sizet_k K) a H := by kernel_rfl
  have h3 : codeP PP CC (subC (bodyC PP 6) [1, 0]) (m_pool_Pool_Sizet_k K) a H = m_pool_Pool_Sizet K (a 0) (a 1) (a 2) H := by kernel_rfl
  ((h1.trans h2).trans h2b).trans h3
abbrev m_pool_Pool_Size_k (K : AV → AH → Prop) : KP := exP (fun (a : TE) (H : AH) => m_pool_Pool_Sizet K (a 0) (a 1) (a 2) H) (m_pool_Pool_Size_K K)
def m_pool_Pool_Size (K : AV → AH → Prop) (x0 x1 x2 : AV) (H : AH) : Prop :=
  m_pool_Pool_Sizet K x0 x1 x2 H
theorem m_pool_Pool_Size_eq (K : AV → AH → Prop) (a : TE) (H : AH) : codeP PP CC (subC (bodyC PP 6) []) (m_pool_Pool_Size_K K) a H = m_pool_Pool_Size K (a 0) (a 1) (a 2) H :=
  have h1 : codeP PP CC (subC (bodyC PP 6) []) (m_pool_Pool_Size_K K) a H = codeP PP CC (subC (bodyC PP 6) [0]) (exP (codeP PP CC (subC (bodyC PP 6) [1]) (m_pool_Pool_Size_K K)) (m_pool_Pool_Size_K K)) a H := by kernel_rfl
  have h2 : codeP PP CC (subC (bodyC PP 6) [0]) (exP (codeP PP CC (subC (bodyC PP 6) [1]) (m_pool_Pool_Size_K K)) (m_pool_Pool_Size_K K)) a H = codeP PP CC (subC (bodyC PP 6) [0]) (exP (fun (a : TE) (H : AH) => m_pool_Pool_Sizet K (a 0) (a 1) (a 2) H) (m_pool_Pool_Size_K K)) a H := congrArg (fun k : KE => codeP PP CC (subC (bodyC PP 6) [0]) (exP k (m_pool_Pool_Size_K K)) a H) (funext fun a => funext fun H => m_pool_Pool_Sizet_eq K a H)
  have h2b : codeP PP CC (subC (bodyC PP 6) [0]) (exP (fun (a : TE) (H : AH) => m_pool_Pool_Sizet K (a 0) (a 1) (a 2) H) (m_pool_Pool_Size_K K)) a H = codeP PP CC (subC (bodyC PP 6) [0]) (m_pool_Pool_Size_k K) a H := by kernel_rfl
  have h3 : codeP PP CC (subC (bodyC PP 6) [0]) (m_pool_Pool_Size_k K) a H = m_pool_Pool_Size K (a 0) (a 1) (a 2) H := by kernel_rfl
  ((h1.trans h2).trans h2b).trans h3
theorem m_pool_Pool_Size_ok (x0 x1 x2 : AV) (H : AH) (K : AV → AH → Prop) (h : m_pool_Pool_Size K x0 x1 x2 H) : CC.call 6 [x0, x1, x2] H K :=
  have h1 : funP PP CC 6 [x0, x1, x2] H K = codeP PP CC (subC (bodyC PP 6) []) (m_pool_Pool_Size_K K) (argE [x0, x1, x2]) H := by kernel_rfl
  have h2 : m_pool_Pool_Size K (argE [x0, x1, x2] 0) (argE [x0, x1, x2] 1) (argE [x0, x1, x2] 2) H = m_pool_Pool_Size K x0 x1 x2 H := by kernel_rfl
  funP_ok (P := PP) (by kernel_rfl) (by kernel_rfl) ((h1.trans ((m_pool_Pool_Size_eq K (argE [x0, x1, x2]) H).trans h2)).mpr h)

/-! 8: (*fieldfare/pool.Pool).Of -/
abbrev m_pool_Pool_Of_K (K : AV → AH → Prop) : KP := finP PP (resC PP 8) K
def m_pool_Pool_Of (K : AV → AH → Prop) (x0 x1 : AV) (H : AH) : Prop :=
  outP CC H (w_eq PP .eql 24 false true H x0 (.ptr none)) fun v1 H1 =>
  condP v1
  (K (.slice none 0 0 true) H1)
  (outP CC H1 (w_nil H1 x0) fun v2 H2 =>
  outP CC H2 (w_fieldAddr 1 H2 v2) fun v3 H3 =>
  outP CC H3 (w_load none H3 v3) fun v4 H4 =>
  outP CC H4 (w_lookup PP 3 31 false H4 v4 x1) fun v5 H5 =>
  outP CC H5 (some (.enter 29 [v5])) fun v6 H6 =>
  K v6 H6)
theorem m_pool_Pool_Of_eq (K : AV → AH → Prop) (a : TE) (H : AH) : codeP PP CC (subC (bodyC PP 8) []) (m_pool_Pool_Of_K K) a H = m_pool_Pool_Of K (a 0) (a 1) H :=
  by kernel_rfl
theorem m_pool_Pool_Of_ok (x0 x1 : AV) (H : AH) (K : AV → AH → Prop) (h : m_pool_Pool_Of K x0 x1 H) : CC.call 8 [x0, x1] H K :=
  have h1 : funP PP CC 8 [x0, x1] H K = codeP PP CC (subC (bodyC PP 8) []) (m_pool_Pool_Of_K K) (argE [x0, x1]) H := by kernel_rfl
  have h2 : m_pool_Pool_Of K (argE [x0, x1] 0) (argE [x0, x1] 1) H = m_pool_Pool_Of K x0 x1 H := by kernel_rfl
  funP_ok (P := PP) (by kernel_rfl) (by kernel_rfl) ((h1.trans ((m_pool_Pool_Of_eq K (argE [x0, x1]) H).trans h2)).mpr h)

/-! 9: (*fieldfare/pool.Pool).Free -/
abbrev m_pool_Pool_Free_K (K : AV → AH → Prop) : KP := finP PP (resC PP 9) K
def m_pool_Pool_Free (K : AV → AH → Prop) (x0 : AV) (H : AH) : Prop :=
  outP CC H (w_eq PP .eql 24 false true H x0 (.ptr none)) fun v1 H1 =>
  condP v1
  (K (.int .i64 0) H1)
  (outP CC H1 (w_nil H1 x0) fun v2 H2 =>
  outP CC H2 (w_fieldAddr 0 H2 v2) fun v3 H3 =>
  outP CC H3 (w_load none H3 v3) fun v4 H4 =>
  outP CC H4 (w_len PP 31 H4 v4) fun v5 H5 =>
  K v5 H5)
theorem m_pool_Pool_Free_eq (K : AV → AH → Prop) (a : TE) (H : AH) : codeP PP CC (subC (bodyC PP 9) []) (m_pool_Pool_Free_K K) a H = m_pool_Pool_Free K (a 0) H :=
  by kernel_rfl
theorem m_pool_Pool_Free_ok (x0 : AV) (H : AH) (K : AV → AH → Prop) (h : m_pool_Pool_Free K x0 H) : CC.call 9 [x0] H K :=
  have h1 : funP PP CC 9 [x0] H K = codeP PP CC (subC (bodyC PP 9) []) (m_pool_Pool_Free_K K) (argE [x0]) H := by kernel_rfl
  have h2 : m_pool_Pool_Free K (argE [x0] 0) H = m_pool_Pool_Free K x0 H := by kernel_rfl
  funP_ok (P := PP) (by kernel_rfl) (by kernel_rfl) ((h1.trans ((m_pool_Pool_Free_eq K (argE [x0]) H).trans h2)).mpr h)

end
end Go.Ab
