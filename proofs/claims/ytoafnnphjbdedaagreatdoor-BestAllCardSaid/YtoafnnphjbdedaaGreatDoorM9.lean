/- What functions do, said as what the evaluator does. Printed by a program. -/
import Derived.Test.YtoafnnphjbdedaaGreatDoorBeg
import Derived.Test.YtoafnnphjbdedaaGreatDoorEv3
namespace Go.Ab
noncomputable section
open Go.Proofs
set_option maxRecDepth 100000



/-! 9: fieldfare/fieldfarelaw7.BestAll -/
abbrev m_fieldfarelaw7_BestAll_K (K : AV → AH → Prop) : KP := finP PP (resC PP 9) K
abbrev m_fieldfarelaw7_BestAlltttttt_k (K : AV → AH → Prop) : KP := exP (codeP PP CC (subC (bodyC PP 9) [1, 1, 1, 1, 1, 1, 1]) (m_fieldfarelaw7_BestAll_K K)) (m_fieldfarelaw7_BestAll_K K)
abbrev m_fieldfarelaw7_BestAllttttttht_k (K : AV → AH → Prop) : KP := blockP 0 (m_fieldfarelaw7_BestAlltttttt_k K)
abbrev m_fieldfarelaw7_BestAlltttttthtb_k (K : AV → AH → Prop) (r0 : (AV × AV × AV × AV × AV) → AH → Prop) : KP := exP (fun (a : TE) (H : AH) => r0 (a 0, a 1, a 6, a 7, a 8) H) (m_fieldfarelaw7_BestAllttttttht_k K)
def m_fieldfarelaw7_BestAlltttttthtbl (K : AV → AH → Prop) (r0 : (AV × AV × AV × AV × AV) → AH → Prop) (x0 x1 x6 x7 x8 : AV) (H : AH) : Prop :=
  outP CC H (w_len PP 32 H x1) fun v1 H1 =>
  outP CC H1 (w_int .lss H1 x8 v1) fun v2 H2 =>
  guardP (boolIs true v2) H2 (outP CC H2 (some (.val x8 H2))) fun v3 H3 =>
  guardP (boolIs true v2) H3 (outP CC H3 (w_int .lss H3 v3 (.int .i64 40))) fun v4 H4 =>
  outP CC H4 (w_pick H4 v2 v4 (.bool false)) fun v5 H5 =>
  condP v5
  (outP CC H5 (w_indexAddr (.sl 2) H5 x1 x8) fun v6 H6 =>
  outP CC H6 (w_load (some 2) H6 v6) fun v7 H7 =>
  outP CC H7 (some (.enter 32 [x0, x7, v7])) fun v8 H8 =>
  outP CC H8 (w_extract 0 H8 v8) fun v9 H9 =>
  outP CC H9 (w_extract 1 H9 v8) fun v10 H10 =>
  outP CC H10 (w_indexAddr (.sl 2) H10 x1 x8) fun v11 H11 =>
  outP CC H11 (w_load (some 2) H11 v11) fun v12 H12 =>
  outP CC H12 (some (.enter 21 [x6, v12])) fun v13 H13 =>
  outP CC H13 (w_eq PP .neq 4 false false H13 v13 v10) fun v14 H14 =>
  guardP (boolIs false v14) H14 (outP CC H14 (some (.val x6 H14))) fun v15 H15 =>
  guardP (boolIs false v14) H15 (outP CC H15 (some (.enter 24 [v15]))) fun v16 H16 =>
  guardP (boolIs false v14) H16 (outP CC H16 (some (.val v9 H16))) fun v17 H17 =>
  guardP (boolIs false v14) H17 (outP CC H17 (w_len PP 32 H17 v17)) fun v18 H18 =>
  guardP (boolIs false v14) H18 (outP CC H18 (w_int .neq H18 v16 v18)) fun v19 H19 =>
  outP CC H19 (w_pick H19 v14 (.bool true) v19) fun v20 H20 =>
  condP v20
  (K (.bool false) H20)
  (outP CC H20 (some (.enter 33 [x6])) fun v21 H21 =>
  outP CC H21 (w_extract 0 H21 v21) fun v22 H22 =>
  outP CC H22 (w_extract 1 H22 v21) fun v23 H23 =>
  outP CC H23 (w_alloc 37 [(.int .i64 0), (.int .i64 0)] H23 none) fun v24 H24 =>
  outP CC H24 (w_store 2 H24 v24 v22) fun _v25 H25 =>
  outP CC H25 (w_int .gtr H25 x0 (.int .i64 0)) fun v26 H26 =>
  guardP (boolIs true v26) H26 (outP CC H26 (some (.val v9 H26))) fun v27 H27 =>
  guardP (boolIs true v26) H27 (outP CC H27 (w_len PP 32 H27 v27)) fun v28 H28 =>
  guardP (boolIs true v26) H28 (outP CC H28 (some (.val x0 H28))) fun v29 H29 =>
  guardP (boolIs true v26) H29 (outP CC H29 (w_int .eql H29 v28 v29)) fun v30 H30 =>
  outP CC H30 (w_pick H30 v26 v30 (.bool false)) fun v31 H31 =>
  outP CC H31 (w_eq PP .neq 4 false false H31 v23 v31) fun v32 H32 =>
  guardP (boolIs false v32) H32 (outP CC H32 (some (.val v23 H32))) fun v33 H33 =>
  guardP (boolIs false v32) H33 (outP CC H33 (some (.val v33 H33))) fun v34 H34 =>
  guardP (boolIs true v34) H34 (outP CC H34 (w_load (some 2) H34 v24)) fun v35 H35 =>
  guardP (boolIs true v34) H35 (outP CC H35 (some (.val v9 H35))) fun v36 H36 =>
  guardP (boolIs true v34) H36 (outP CC H36 (some (.val v9 H36))) fun v37 H37 =>
  guardP (boolIs true v34) H37 (outP CC H37 (w_len PP 32 H37 v37)) fun v38 H38 =>
  guardP (boolIs true v34) H38 (outP CC H38 (w_int .sub H38 v38 (.int .i64 1))) fun v39 H39 =>
  guardP (boolIs true v34) H39 (outP CC H39 (w_indexAddr (.sl 2) H39 v36 v39)) fun v40 H40 =>
  guardP (boolIs true v34) H40 (outP CC H40 (w_load (some 2) H40 v40)) fun v41 H41 =>
  guardP (boolIs true v34) H41 (outP CC H41 (w_eq PP .neq 37 false false H41 v35 v41)) fun v42 H42 =>
  guardP (boolIs false v32) H42 (outP CC H42 (w_pick H42 v34 v42 (.bool false))) fun v43 H43 =>
  outP CC H43 (w_pick H43 v32 (.bool true) v43) fun v44 H44 =>
  guardP (boolIs false v44) H44 (outP CC H44 (some (.val v23 H44))) fun v45 H45 =>
  guardP (boolIs false v44) H45 (outP CC H45 (w_un .not H45 v45)) fun v46 H46 =>
  guardP (boolIs false v44) H46 (outP CC H46 (some (.val v46 H46))) fun v47 H47 =>
  guardP (boolIs true v47) H47 (outP CC H47 (w_load (some 2) H47 v24)) fun v48 H48 =>
  guardP (boolIs true v47) H48 (outP CC H48 (w_build PP 37 H48 [])) fun v49 H49 =>
  guardP (boolIs true v47) H49 (outP CC H49 (w_eq PP .neq 37 false false H49 v48 v49)) fun v50 H50 =>
  guardP (boolIs false v44) H50 (outP CC H50 (w_pick H50 v47 v50 (.bool false))) fun v51 H51 =>
  outP CC H51 (w_pick H51 v44 (.bool true) v51) fun v52 H52 =>
  condP v52
  (K (.bool false) H52)
  (outP CC H52 (some (.enter 22 [x6])) fun v53 H53 =>
  outP CC H53 (some (.enter 23 [v53, v9])) fun v54 H54 =>
  outP CC H54 (w_un .not H54 v54) fun v55 H55 =>
  condP v55
  (K (.bool false) H55)
  (outP CC H55 (w_int .add H55 x8 (.int .i64 1)) fun v56 H56 =>
  r0 (x0, x1, x6, v9, v56) H56))))
  (outP CC H5 (w_len PP 32 H5 x1) fun v57 H57 =>
  outP CC H57 (w_min2 H57 v57 (.int .i64 40)) fun v58 H58 =>
  outP CC H58 (w_slice (.sl 2) true false H58 x1 none (some v58) none) fun v59 H59 =>
  outP CC H59 (some (.enter 25 [x0, v59])) fun v60 H60 =>
  outP CC H60 (some (.enter 23 [v60, x7])) fun v61 H61 =>
  K v61 H61)
theorem m_fieldfarelaw7_BestAlltttttthtbl_eq (K : AV → AH → Prop) (r0 : (AV × AV × AV × AV × AV) → AH → Prop) (a : TE) (H : AH) : codeP PP CC (subC (bodyC PP 9) [1, 1, 1, 1, 1, 1, 0, 1, 0, 0]) (m_fieldfarelaw7_BestAlltttttthtb_k K r0) a H = m_fieldfarelaw7_BestAlltttttthtbl K r0 (a 0) (a 1) (a 6) (a 7) (a 8) H :=
  by kernel_rfl
def m_fieldfarelaw7_BestAlltttttthtb (K : AV → AH → Prop) (x0 x1 x6 x7 x8 : AV) (H : AH) : Prop :=
  loopP (fun (r0 : (AV × AV × AV × AV × AV) → AH → Prop) (s : (AV × AV × AV × AV × AV)) (H : AH) => m_fieldfarelaw7_BestAlltttttthtbl K r0 s.1 s.2.1 s.2.2.1 s.2.2.2.1 s.2.2.2.2 H) (x0, x1, x6, x7, x8) H
theorem m_fieldfarelaw7_BestAlltttttthtb_eq (K : AV → AH → Prop) (a : TE) (H : AH) : codeP PP CC (subC (bodyC PP 9) [1, 1, 1, 1, 1, 1, 0, 1, 0]) (m_fieldfarelaw7_BestAllttttttht_k K) a H = m_fieldfarelaw7_BestAlltttttthtb K (a 0) (a 1) (a 6) (a 7) (a 8) H :=
  have h1 : codeP PP CC (subC (bodyC PP 9) [1, 1, 1, 1, 1, 1, 0, 1, 0]) (m_fieldfarelaw7_BestAllttttttht_k K) a H = loopP (fun (rec : KE) => codeP PP CC (subC (bodyC PP 9) [1, 1, 1, 1, 1, 1, 0, 1, 0, 0]) (exP rec (m_fieldfarelaw7_BestAllttttttht_k K))) a H := by kernel_rfl
  have h2 := loopP_iso (F := fun (rec : KE) => codeP PP CC (subC (bodyC PP 9) [1, 1, 1, 1, 1, 1, 0, 1, 0, 0]) (exP rec (m_fieldfarelaw7_BestAllttttttht_k K))) (S := (AV × AV × AV × AV × AV)) (fun a => (a 0, a 1, a 6, a 7, a 8)) (fun (r0 : (AV × AV × AV × AV × AV) → AH → Prop) (s : (AV × AV × AV × AV × AV)) (H : AH) => m_fieldfarelaw7_BestAlltttttthtbl K r0 s.1 s.2.1 s.2.2.1 s.2.2.2.1 s.2.2.2.2 H) (fun (r0 : (AV × AV × AV × AV × AV) → AH → Prop) (a : TE) (H : AH) => (show codeP PP CC (subC (bodyC PP 9) [1, 1, 1, 1, 1, 1, 0, 1, 0, 0]) (exP (fun (a : TE) (H : AH) => r0 (a 0, a 1, a 6, a 7, a 8) H) (m_fieldfarelaw7_BestAllttttttht_k K)) a H = codeP PP CC (subC (bodyC PP 9) [1, 1, 1, 1, 1, 1, 0, 1, 0, 0]) (m_fieldfarelaw7_BestAlltttttthtb_k K r0) a H from by kernel_rfl).trans (m_fieldfarelaw7_BestAlltttttthtbl_eq K r0 a H)) a H
  h1.trans h2
theorem m_fieldfarelaw7_BestAllttttttht_eq (K : AV → AH → Prop) (a : TE) (H : AH) : codeP PP CC (subC (bodyC PP 9) [1, 1, 1, 1, 1, 1, 0, 1]) (m_fieldfarelaw7_BestAlltttttt_k K) a H = m_fieldfarelaw7_BestAlltttttthtb K (a 0) (a 1) (a 6) (a 7) (a 8) H :=
  have h1 : codeP PP CC (subC (bodyC PP 9) [1, 1, 1, 1, 1, 1, 0, 1]) (m_fieldfarelaw7_BestAlltttttt_k K) a H = codeP PP CC (subC (bodyC PP 9) [1, 1, 1, 1, 1, 1, 0, 1, 0]) (m_fieldfarelaw7_BestAllttttttht_k K) a H := by kernel_rfl
  h1.trans (m_fieldfarelaw7_BestAlltttttthtb_eq K a H)
abbrev m_fieldfarelaw7_BestAlltttttth_k (K : AV → AH → Prop) : KP := exP (fun (a : TE) (H : AH) => m_fieldfarelaw7_BestAlltttttthtb K (a 0) (a 1) (a 6) (a 7) (a 8) H) (m_fieldfarelaw7_BestAlltttttt_k K)
def m_fieldfarelaw7_BestAlltttttth (K : AV → AH → Prop) (x0 x1 x6 x7 : AV) (H : AH) : Prop :=
  m_fieldfarelaw7_BestAlltttttthtb K x0 x1 x6 x7 (.int .i64 0) H
theorem m_fieldfarelaw7_BestAlltttttth_eq (K : AV → AH → Prop) (a : TE) (H : AH) : codeP PP CC (subC (bodyC PP 9) [1, 1, 1, 1, 1, 1, 0]) (m_fieldfarelaw7_BestAlltttttt_k K) a H = m_fieldfarelaw7_BestAlltttttth K (a 0) (a 1) (a 6) (a 7) H :=
  have h1 : codeP PP CC (subC (bodyC PP 9) [1, 1, 1, 1, 1, 1, 0]) (m_fieldfarelaw7_BestAlltttttt_k K) a H = codeP PP CC (subC (bodyC PP 9) [1, 1, 1, 1, 1, 1, 0, 0]) (exP (codeP PP CC (subC (bodyC PP 9) [1, 1, 1, 1, 1, 1, 0, 1]) (m_fieldfarelaw7_BestAlltttttt_k K)) (m_fieldfarelaw7_BestAlltttttt_k K)) a H := by kernel_rfl
  have h2 : codeP PP CC (subC (bodyC PP 9) [1, 1, 1, 1, 1, 1, 0, 0]) (exP (codeP PP CC (subC (bodyC PP 9) [1, 1, 1, 1, 1, 1, 0, 1]) (m_fieldfarelaw7_BestAlltttttt_k K)) (m_fieldfarelaw7_BestAlltttttt_k K)) a H = codeP PP CC (subC (bodyC PP 9) [1, 1, 1, 1, 1, 1, 0, 0]) (exP (fun (a : TE) (H : AH) => m_fieldfarelaw7_BestAlltttttthtb K (a 0) (a 1) (a 6) (a 7) (a 8) H) (m_fieldfarelaw7_BestAlltttttt_k K)) a H := congrArg (fun k : KE => codeP PP CC (subC (bodyC PP 9) [1, 1, 1, 1, 1, 1, 0, 0]) (exP k (m_fieldfarelaw7_BestAlltttttt_k K)) a H) (funext fun a => funext fun H => m_fieldfarelaw7_BestAllttttttht_eq K a H)
  have h2b : codeP PP CC (subC (bodyC PP 9) [1, 1, 1, 1, 1, 1, 0, 0]) (exP (fun (a : TE) (H : AH) => m_fieldfarelaw7_BestAlltttttthtb K (a 0) (a 1) (a 6) (a 7) (a 8) H) (m_fieldfarelaw7_BestAlltttttt_k K)) a H = codeP PP CC (subC (bodyC PP 9) [1, 1, 1, 1, 1, 1, 0, 0]) (m_fieldfarelaw7_BestAlltttttth_k K) a H := by kernel_rfl
  have h3 : codeP PP CC (subC (bodyC PP 9) [1, 1, 1, 1, 1, 1, 0, 0]) (m_fieldfarelaw7_BestAlltttttth_k K) a H = m_fieldfarelaw7_BestAlltttttth K (a 0) (a 1) (a 6) (a 7) H := by kernel_rfl
  ((h1.trans h2).trans h2b).trans h3
theorem m_fieldfarelaw7_BestAlltttttt_eq (K : AV → AH → Prop) (a : TE) (H : AH) : codeP PP CC (subC (bodyC PP 9) [1, 1, 1, 1, 1, 1]) (m_fieldfarelaw7_BestAll_K K) a H = m_fieldfarelaw7_BestAlltttttth K (a 0) (a 1) (a 6) (a 7) H :=
  have h1 : codeP PP CC (subC (bodyC PP 9) [1, 1, 1, 1, 1, 1]) (m_fieldfarelaw7_BestAll_K K) a H = codeP PP CC (subC (bodyC PP 9) [1, 1, 1, 1, 1, 1, 0]) (m_fieldfarelaw7_BestAlltttttt_k K) a H := by kernel_rfl
  h1.trans (m_fieldfarelaw7_BestAlltttttth_eq K a H)
abbrev m_fieldfarelaw7_BestAllttttt_k (K : AV → AH → Prop) : KP := exP (fun (a : TE) (H : AH) => m_fieldfarelaw7_BestAlltttttth K (a 0) (a 1) (a 6) (a 7) H) (m_fieldfarelaw7_BestAll_K K)
def m_fieldfarelaw7_BestAllttttt (K : AV → AH → Prop) (x0 x1 x6 x7 : AV) (H : AH) : Prop :=
  outP CC H (w_max2 H x0 (.int .i64 0)) fun v1 H1 =>
  m_fieldfarelaw7_BestAlltttttth K v1 x1 x6 x7 H1
theorem m_fieldfarelaw7_BestAllttttt_eq (K : AV → AH → Prop) (a : TE) (H : AH) : codeP PP CC (subC (bodyC PP 9) [1, 1, 1, 1, 1]) (m_fieldfarelaw7_BestAll_K K) a H = m_fieldfarelaw7_BestAllttttt K (a 0) (a 1) (a 6) (a 7) H :=
  have h1 : codeP PP CC (subC (bodyC PP 9) [1, 1, 1, 1, 1]) (m_fieldfarelaw7_BestAll_K K) a H = codeP PP CC (subC (bodyC PP 9) [1, 1, 1, 1, 1, 0]) (exP (codeP PP CC (subC (bodyC PP 9) [1, 1, 1, 1, 1, 1]) (m_fieldfarelaw7_BestAll_K K)) (m_fieldfarelaw7_BestAll_K K)) a H := by kernel_rfl
  have h2 : codeP PP CC (subC (bodyC PP 9) [1, 1, 1, 1, 1, 0]) (exP (codeP PP CC (subC (bodyC PP 9) [1, 1, 1, 1, 1, 1]) (m_fieldfarelaw7_BestAll_K K)) (m_fieldfarelaw7_BestAll_K K)) a H = codeP PP CC (subC (bodyC PP 9) [1, 1, 1, 1, 1, 0]) (exP (fun (a : TE) (H : AH) => m_fieldfarelaw7_BestAlltttttth K (a 0) (a 1) (a 6) (a 7) H) (m_fieldfarelaw7_BestAll_K K)) a H := congrArg (fun k : KE => codeP PP CC (subC (bodyC PP 9) [1, 1, 1, 1, 1, 0]) (exP k (m_fieldfarelaw7_BestAll_K K)) a H) (funext fun a => funext fun H => m_fieldfarelaw7_BestAlltttttt_eq K a H)
  have h2b : codeP PP CC (subC (bodyC PP 9) [1, 1, 1, 1, 1, 0]) (exP (fun (a : TE) (H : AH) => m_fieldfarelaw7_BestAlltttttth K (a 0) (a 1) (a 6) (a 7) H) (m_fieldfarelaw7_BestAll_K K)) a H = codeP PP CC (subC (bodyC PP 9) [1, 1, 1, 1, 1, 0]) (m_fieldfarelaw7_BestAllttttt_k K) a H := by kernel_rfl
  have h3 : codeP PP CC (subC (bodyC PP 9) [1, 1, 1, 1, 1, 0]) (m_fieldfarelaw7_BestAllttttt_k K) a H = m_fieldfarelaw7_BestAllttttt K (a 0) (a 1) (a 6) (a 7) H := by kernel_rfl
  ((h1.trans h2).trans h2b).trans h3
abbrev m_fieldfarelaw7_BestAlltttt_k (K : AV → AH → Prop) : KP := exP (fun (a : TE) (H : AH) => m_fieldfarelaw7_BestAllttttt K (a 0) (a 1) (a 6) (a 7) H) (m_fieldfarelaw7_BestAll_K K)
def m_fieldfarelaw7_BestAlltttt (K : AV → AH → Prop) (x0 x1 x6 : AV) (H : AH) : Prop :=
  m_fieldfarelaw7_BestAllttttt K x0 x1 x6 (.slice none 0 0 true) H
theorem m_fieldfarelaw7_BestAlltttt_eq (K : AV → AH → Prop) (a : TE) (H : AH) : codeP PP CC (subC (bodyC PP 9) [1, 1, 1, 1]) (m_fieldfarelaw7_BestAll_K K) a H = m_fieldfarelaw7_BestAlltttt K (a 0) (a 1) (a 6) H :=
  have h1 : codeP PP CC (subC (bodyC PP 9) [1, 1, 1, 1]) (m_fieldfarelaw7_BestAll_K K) a H = codeP PP CC (subC (bodyC PP 9) [1, 1, 1, 1, 0]) (exP (codeP PP CC (subC (bodyC PP 9) [1, 1, 1, 1, 1]) (m_fieldfarelaw7_BestAll_K K)) (m_fieldfarelaw7_BestAll_K K)) a H := by kernel_rfl
  have h2 : codeP PP CC (subC (bodyC PP 9) [1, 1, 1, 1, 0]) (exP (codeP PP CC (subC (bodyC PP 9) [1, 1, 1, 1, 1]) (m_fieldfarelaw7_BestAll_K K)) (m_fieldfarelaw7_BestAll_K K)) a H = codeP PP CC (subC (bodyC PP 9) [1, 1, 1, 1, 0]) (exP (fun (a : TE) (H : AH) => m_fieldfarelaw7_BestAllttttt K (a 0) (a 1) (a 6) (a 7) H) (m_fieldfarelaw7_BestAll_K K)) a H := congrArg (fun k : KE => codeP PP CC (subC (bodyC PP 9) [1, 1, 1, 1, 0]) (exP k (m_fieldfarelaw7_BestAll_K K)) a H) (funext fun a => funext fun H => m_fieldfarelaw7_BestAllttttt_eq K a H)
  have h2b : codeP PP CC (subC (bodyC PP 9) [1, 1, 1, 1, 0]) (exP (fun (a : TE) (H : AH) => m_fieldfarelaw7_BestAllttttt K (a 0) (a 1) (a 6) (a 7) H) (m_fieldfarelaw7_BestAll_K K)) a H = codeP PP CC (subC (bodyC PP 9) [1, 1, 1, 1, 0]) (m_fieldfarelaw7_BestAlltttt_k K) a H := by kernel_rfl
  have h3 : codeP PP CC (subC (bodyC PP 9) [1, 1, 1, 1, 0]) (m_fieldfarelaw7_BestAlltttt_k K) a H = m_fieldfarelaw7_BestAlltttt K (a 0) (a 1) (a 6) H := by kernel_rfl
  ((h1.trans h2).trans h2b).trans h3
abbrev m_fieldfarelaw7_BestAllttt_k (K : AV → AH → Prop) : KP := exP (fun (a : TE) (H : AH) => m_fieldfarelaw7_BestAlltttt K (a 0) (a 1) (a 6) H) (m_fieldfarelaw7_BestAll_K K)
def m_fieldfarelaw7_BestAllttt (K : AV → AH → Prop) (x0 x1 : AV) (H : AH) : Prop :=
  outP CC H (some (.enter 20 [x0])) fun v1 H1 =>
  m_fieldfarelaw7_BestAlltttt K x0 x1 v1 H1
theorem m_fieldfarelaw7_BestAllttt_eq (K : AV → AH → Prop) (a : TE) (H : AH) : codeP PP CC (subC (bodyC PP 9) [1, 1, 1]) (m_fieldfarelaw7_BestAll_K K) a H = m_fieldfarelaw7_BestAllttt K (a 0) (a 1) H :=
  have h1 : codeP PP CC (subC (bodyC PP 9) [1, 1, 1]) (m_fieldfarelaw7_BestAll_K K) a H = codeP PP CC (subC (bodyC PP 9) [1, 1, 1, 0]) (exP (codeP PP CC (subC (bodyC PP 9) [1, 1, 1, 1]) (m_fieldfarelaw7_BestAll_K K)) (m_fieldfarelaw7_BestAll_K K)) a H := by kernel_rfl
  have h2 : codeP PP CC (subC (bodyC PP 9) [1, 1, 1, 0]) (exP (codeP PP CC (subC (bodyC PP 9) [1, 1, 1, 1]) (m_fieldfarelaw7_BestAll_K K)) (m_fieldfarelaw7_BestAll_K K)) a H = codeP PP CC (subC (bodyC PP 9) [1, 1, 1, 0]) (exP (fun (a : TE) (H : AH) => m_fieldfarelaw7_BestAlltttt K (a 0) (a 1) (a 6) H) (m_fieldfarelaw7_BestAll_K K)) a H := congrArg (fun k : KE => codeP PP CC (subC (bodyC PP 9) [1, 1, 1, 0]) (exP k (m_fieldfarelaw7_BestAll_K K)) a H) (funext fun a => funext fun H => m_fieldfarelaw7_BestAlltttt_eq K a H)
  have h2b : codeP PP CC (subC (bodyC PP 9) [1, 1, 1, 0]) (exP (fun (a : TE) (H : AH) => m_fieldfarelaw7_BestAlltttt K (a 0) (a 1) (a 6) H) (m_fieldfarelaw7_BestAll_K K)) a H = codeP PP CC (subC (bodyC PP 9) [1, 1, 1, 0]) (m_fieldfarelaw7_BestAllttt_k K) a H := by kernel_rfl
  have h3 : codeP PP CC (subC (bodyC PP 9) [1, 1, 1, 0]) (m_fieldfarelaw7_BestAllttt_k K) a H = m_fieldfarelaw7_BestAllttt K (a 0) (a 1) H := by kernel_rfl
  ((h1.trans h2).trans h2b).trans h3
abbrev m_fieldfarelaw7_BestAlltt_k (K : AV → AH → Prop) : KP := exP (fun (a : TE) (H : AH) => m_fieldfarelaw7_BestAllttt K (a 0) (a 1) H) (m_fieldfarelaw7_BestAll_K K)
def m_fieldfarelaw7_BestAlltt (K : AV → AH → Prop) (x0 x1 x5 : AV) (H : AH) : Prop :=
  outP CC H (w_un .not H x5) fun v1 H1 =>
  condP v1
  (K (.bool false) H1)
  (m_fieldfarelaw7_BestAllttt K x0 x1 H1)
theorem m_fieldfarelaw7_BestAlltt_eq (K : AV → AH → Prop) (a : TE) (H : AH) : codeP PP CC (subC (bodyC PP 9) [1, 1]) (m_fieldfarelaw7_BestAll_K K) a H = m_fieldfarelaw7_BestAlltt K (a 0) (a 1) (a 5) H :=
  have h1 : codeP PP CC (subC (bodyC PP 9) [1, 1]) (m_fieldfarelaw7_BestAll_K K) a H = codeP PP CC (subC (bodyC PP 9) [1, 1, 0]) (exP (codeP PP CC (subC (bodyC PP 9) [1, 1, 1]) (m_fieldfarelaw7_BestAll_K K)) (m_fieldfarelaw7_BestAll_K K)) a H := by kernel_rfl
  have h2 : codeP PP CC (subC (bodyC PP 9) [1, 1, 0]) (exP (codeP PP CC (subC (bodyC PP 9) [1, 1, 1]) (m_fieldfarelaw7_BestAll_K K)) (m_fieldfarelaw7_BestAll_K K)) a H = codeP PP CC (subC (bodyC PP 9) [1, 1, 0]) (exP (fun (a : TE) (H : AH) => m_fieldfarelaw7_BestAllttt K (a 0) (a 1) H) (m_fieldfarelaw7_BestAll_K K)) a H := congrArg (fun k : KE => codeP PP CC (subC (bodyC PP 9) [1, 1, 0]) (exP k (m_fieldfarelaw7_BestAll_K K)) a H) (funext fun a => funext fun H => m_fieldfarelaw7_BestAllttt_eq K a H)
  have h2b : codeP PP CC (subC (bodyC PP 9) [1, 1, 0]) (exP (fun (a : TE) (H : AH) => m_fieldfarelaw7_BestAllttt K (a 0) (a 1) H) (m_fieldfarelaw7_BestAll_K K)) a H = codeP PP CC (subC (bodyC PP 9) [1, 1, 0]) (m_fieldfarelaw7_BestAlltt_k K) a H := by kernel_rfl
  have h3 : codeP PP CC (subC (bodyC PP 9) [1, 1, 0]) (m_fieldfarelaw7_BestAlltt_k K) a H = m_fieldfarelaw7_BestAlltt K (a 0) (a 1) (a 5) H := by kernel_rfl
  ((h1.trans h2).trans h2b).trans h3
abbrev m_fieldfarelaw7_BestAllt_k (K : AV → AH → Prop) : KP := exP (fun (a : TE) (H : AH) => m_fieldfarelaw7_BestAlltt K (a 0) (a 1) (a 5) H) (m_fieldfarelaw7_BestAll_K K)
def m_fieldfarelaw7_BestAllt (K : AV → AH → Prop) (x0 x1 : AV) (H : AH) : Prop :=
  outP CC H (some (.enter 14 [])) fun v1 H1 =>
  m_fieldfarelaw7_BestAlltt K x0 x1 v1 H1
theorem m_fieldfarelaw7_BestAllt_eq (K : AV → AH → Prop) (a : TE) (H : AH) : codeP PP CC (subC (bodyC PP 9) [1]) (m_fieldfarelaw7_BestAll_K K) a H = m_fieldfarelaw7_BestAllt K (a 0) (a 1) H :=
  have h1 : codeP PP CC (subC (bodyC PP 9) [1]) (m_fieldfarelaw7_BestAll_K K) a H = codeP PP CC (subC (bodyC PP 9) [1, 0]) (exP (codeP PP CC (subC (bodyC PP 9) [1, 1]) (m_fieldfarelaw7_BestAll_K K)) (m_fieldfarelaw7_BestAll_K K)) a H := by kernel_rfl
  have h2 : codeP PP CC (subC (bodyC PP 9) [1, 0]) (exP (codeP PP CC (subC (bodyC PP 9) [1, 1]) (m_fieldfarelaw7_BestAll_K K)) (m_fieldfarelaw7_BestAll_K K)) a H = codeP PP CC (subC (bodyC PP 9) [1, 0]) (exP (fun (a : TE) (H : AH) => m_fieldfarelaw7_BestAlltt K (a 0) (a 1) (a 5) H) (m_fieldfarelaw7_BestAll_K K)) a H := congrArg (fun k : KE => codeP PP CC (subC (bodyC PP 9) [1, 0]) (exP k (m_fieldfarelaw7_BestAll_K K)) a H) (funext fun a => funext fun H => m_fieldfarelaw7_BestAlltt_eq K a H)
  have h2b : codeP PP CC (subC (bodyC PP 9) [1, 0]) (exP (fun (a : TE) (H : AH) => m_fieldfarelaw7_BestAlltt K (a 0) (a 1) (a 5) H) (m_fieldfarelaw7_BestAll_K K)) a H = codeP PP CC (subC (bodyC PP 9) [1, 0]) (m_fieldfarelaw7_BestAllt_k K) a H := by kernel_rfl
  have h3 : codeP PP CC (subC (bodyC PP 9) [1, 0]) (m_fieldfarelaw7_BestAllt_k K) a H = m_fieldfarelaw7_BestAllt K (a 0) (a 1) H := by kernel_rfl
  ((h1.trans h2).trans h2b).trans h3
abbrev m_fieldfarelaw7_BestAll_k (K : AV → AH → Prop) : KP := exP (fun (a : TE) (H : AH) => m_fieldfarelaw7_BestAllt K (a 0) (a 1) H) (m_fieldfarelaw7_BestAll_K K)
def m_fieldfarelaw7_BestAll (K : AV → AH → Prop) (x0 x1 : AV) (H : AH) : Prop :=
  m_fieldfarelaw7_BestAllt K x0 x1 H
theorem m_fieldfarelaw7_BestAll_eq (K : AV → AH → Prop) (a : TE) (H : AH) : codeP PP CC (subC (bodyC PP 9) []) (m_fieldfarelaw7_BestAll_K K) a H = m_fieldfarelaw7_BestAll K (a 0) (a 1) H :=
  have h1 : codeP PP CC (subC (bodyC PP 9) []) (m_fieldfarelaw7_BestAll_K K) a H = codeP PP CC (subC (bodyC PP 9) [0]) (exP (codeP PP CC (subC (bodyC PP 9) [1]) (m_fieldfarelaw7_BestAll_K K)) (m_fieldfarelaw7_BestAll_K K)) a H := by kernel_rfl
  have h2 : codeP PP CC (subC (bodyC PP 9) [0]) (exP (codeP PP CC (subC (bodyC PP 9) [1]) (m_fieldfarelaw7_BestAll_K K)) (m_fieldfarelaw7_BestAll_K K)) a H = codeP PP CC (subC (bodyC PP 9) [0]) (exP (fun (a : TE) (H : AH) => m_fieldfarelaw7_BestAllt K (a 0) (a 1) H) (m_fieldfarelaw7_BestAll_K K)) a H := congrArg (fun k : KE => codeP PP CC (subC (bodyC PP 9) [0]) (exP k (m_fieldfarelaw7_BestAll_K K)) a H) (funext fun a => funext fun H => m_fieldfarelaw7_BestAllt_eq K a H)
  have h2b : codeP PP CC (subC (bodyC PP 9) [0]) (exP (fun (a : TE) (H : AH) => m_fieldfarelaw7_BestAllt K (a 0) (a 1) H) (m_fieldfarelaw7_BestAll_K K)) a H = codeP PP CC (subC (bodyC PP 9) [0]) (m_fieldfarelaw7_BestAll_k K) a H := by kernel_rfl
  have h3 : codeP PP CC (subC (bodyC PP 9) [0]) (m_fieldfarelaw7_BestAll_k K) a H = m_fieldfarelaw7_BestAll K (a 0) (a 1) H := by kernel_rfl
  ((h1.trans h2).trans h2b).trans h3
theorem m_fieldfarelaw7_BestAll_ok (x0 x1 : AV) (H : AH) (K : AV → AH → Prop) (h : m_fieldfarelaw7_BestAll K x0 x1 H) : CC.call 9 [x0, x1] H K :=
  have h1 : funP PP CC 9 [x0, x1] H K = codeP PP CC (subC (bodyC PP 9) []) (m_fieldfarelaw7_BestAll_K K) (argE [x0, x1]) H := by kernel_rfl
  have h2 : m_fieldfarelaw7_BestAll K (argE [x0, x1] 0) (argE [x0, x1] 1) H = m_fieldfarelaw7_BestAll K x0 x1 H := by kernel_rfl
  funP_ok (P := PP) (by kernel_rfl) (by kernel_rfl) ((h1.trans ((m_fieldfarelaw7_BestAll_eq K (argE [x0, x1]) H).trans h2)).mpr h)

/-! 32: fieldfare/fieldfareref1.PutBest -/
abbrev m_fieldfareref1_PutBest_K (K : AV → AH → Prop) : KP := finP PP (resC PP 32) K
abbrev m_fieldfareref1_PutBesttttt_k (K : AV → AH → Prop) : KP := exP (codeP PP CC (subC (bodyC PP 32) [1, 1, 1, 1, 1]) (m_fieldfareref1_PutBest_K K)) (m_fieldfareref1_PutBest_K K)
abbrev m_fieldfareref1_PutBesttttth_k (K : AV → AH → Prop) : KP := blockP 2 (m_fieldfareref1_PutBesttttt_k K)
abbrev m_fieldfareref1_PutBesttttthb_k (K : AV → AH → Prop) (r0 : (AV × AV × AV × AV) → AH → Prop) : KP := exP (fun (a : TE) (H : AH) => r0 (a 0, a 1, a 5, a 9) H) (m_fieldfareref1_PutBesttttth_k K)
def m_fieldfareref1_PutBesttttthbl (K : AV → AH → Prop) (r0 : (AV × AV × AV × AV) → AH → Prop) (x0 x1 x5 x9 : AV) (H : AH) : Prop :=
  outP CC H (w_len PP 32 H x1) fun v1 H1 =>
  outP CC H1 (w_int .lss H1 x9 v1) fun v2 H2 =>
  guardP (boolIs true v2) H2 (outP CC H2 (w_load (some 2) H2 x5)) fun v3 H3 =>
  guardP (boolIs true v2) H3 (outP CC H3 (some (.val x1 H3))) fun v4 H4 =>
  guardP (boolIs true v2) H4 (outP CC H4 (some (.val x9 H4))) fun v5 H5 =>
  guardP (boolIs true v2) H5 (outP CC H5 (w_indexAddr (.sl 2) H5 v4 v5)) fun v6 H6 =>
  guardP (boolIs true v2) H6 (outP CC H6 (w_load (some 2) H6 v6)) fun v7 H7 =>
  guardP (boolIs true v2) H7 (outP CC H7 (some (.enter 71 [v3, v7]))) fun v8 H8 =>
  guardP (boolIs true v2) H8 (outP CC H8 (w_un .not H8 v8)) fun v9 H9 =>
  outP CC H9 (w_pick H9 v2 v9 (.bool false)) fun v10 H10 =>
  condP v10
  (outP CC H10 (w_int .add H10 x9 (.int .i64 1)) fun v11 H11 =>
  r0 (x0, x1, x5, v11) H11)
  (outP CC (H10.more 1) (w_slice (.sl 2) true false (H10.more 1) x1 none (some x9) none) fun v12 H12 =>
  outP CC H12 (w_load (some 2) H12 x5) fun v13 H13 =>
  outP CC H13 (w_slice (.sl 2) false false H13 x1 (some x9) none none) fun v14 H14 =>
  outP CC H14 (w_append 37 2 16 H14 (.slice none 0 0 true) v12 none) fun v15 H15 =>
  ckP (reC true (w_load (some 2) H15 x5) v13) <|
  outP CC H15 (w_buildSlice PP 37 1 H15 [(0, v13)] (some (Nat.add H10.next 0))) fun v16 H16 =>
  outP CC H16 (w_append 37 2 16 H16 v15 v16 none) fun v17 H17 =>
  outP CC H17 (w_append 37 2 16 H17 v17 v14 none) fun v18 H18 =>
  outP CC H18 (w_len PP 32 H18 v18) fun v19 H19 =>
  outP CC H19 (w_min2 H19 v19 x0) fun v20 H20 =>
  outP CC H20 (w_slice (.sl 2) true false H20 v18 none (some v20) none) fun v21 H21 =>
  K (.tup [v21, (.bool true)]) H21)
theorem m_fieldfareref1_PutBesttttthbl_eq (K : AV → AH → Prop) (r0 : (AV × AV × AV × AV) → AH → Prop) (a : TE) (H : AH) : codeP PP CC (subC (bodyC PP 32) [1, 1, 1, 1, 0, 0, 0]) (m_fieldfareref1_PutBesttttthb_k K r0) a H = m_fieldfareref1_PutBesttttthbl K r0 (a 0) (a 1) (a 5) (a 9) H :=
  by kernel_rfl
def m_fieldfareref1_PutBesttttthb (K : AV → AH → Prop) (x0 x1 x5 x9 : AV) (H : AH) : Prop :=
  loopP (fun (r0 : (AV × AV × AV × AV) → AH → Prop) (s : (AV × AV × AV × AV)) (H : AH) => m_fieldfareref1_PutBesttttthbl K r0 s.1 s.2.1 s.2.2.1 s.2.2.2 H) (x0, x1, x5, x9) H
theorem m_fieldfareref1_PutBesttttthb_eq (K : AV → AH → Prop) (a : TE) (H : AH) : codeP PP CC (subC (bodyC PP 32) [1, 1, 1, 1, 0, 0]) (m_fieldfareref1_PutBesttttth_k K) a H = m_fieldfareref1_PutBesttttthb K (a 0) (a 1) (a 5) (a 9) H :=
  have h1 : codeP PP CC (subC (bodyC PP 32) [1, 1, 1, 1, 0, 0]) (m_fieldfareref1_PutBesttttth_k K) a H = loopP (fun (rec : KE) => codeP PP CC (subC (bodyC PP 32) [1, 1, 1, 1, 0, 0, 0]) (exP rec (m_fieldfareref1_PutBesttttth_k K))) a H := by kernel_rfl
  have h2 := loopP_iso (F := fun (rec : KE) => codeP PP CC (subC (bodyC PP 32) [1, 1, 1, 1, 0, 0, 0]) (exP rec (m_fieldfareref1_PutBesttttth_k K))) (S := (AV × AV × AV × AV)) (fun a => (a 0, a 1, a 5, a 9)) (fun (r0 : (AV × AV × AV × AV) → AH → Prop) (s : (AV × AV × AV × AV)) (H : AH) => m_fieldfareref1_PutBesttttthbl K r0 s.1 s.2.1 s.2.2.1 s.2.2.2 H) (fun (r0 : (AV × AV × AV × AV) → AH → Prop) (a : TE) (H : AH) => (show codeP PP CC (subC (bodyC PP 32) [1, 1, 1, 1, 0, 0, 0]) (exP (fun (a : TE) (H : AH) => r0 (a 0, a 1, a 5, a 9) H) (m_fieldfareref1_PutBesttttth_k K)) a H = codeP PP CC (subC (bodyC PP 32) [1, 1, 1, 1, 0, 0, 0]) (m_fieldfareref1_PutBesttttthb_k K r0) a H from by kernel_rfl).trans (m_fieldfareref1_PutBesttttthbl_eq K r0 a H)) a H
  h1.trans h2
theorem m_fieldfareref1_PutBesttttth_eq (K : AV → AH → Prop) (a : TE) (H : AH) : codeP PP CC (subC (bodyC PP 32) [1, 1, 1, 1, 0]) (m_fieldfareref1_PutBesttttt_k K) a H = m_fieldfareref1_PutBesttttthb K (a 0) (a 1) (a 5) (a 9) H :=
  have h1 : codeP PP CC (subC (bodyC PP 32) [1, 1, 1, 1, 0]) (m_fieldfareref1_PutBesttttt_k K) a H = codeP PP CC (subC (bodyC PP 32) [1, 1, 1, 1, 0, 0]) (m_fieldfareref1_PutBesttttth_k K) a H := by kernel_rfl
  h1.trans (m_fieldfareref1_PutBesttttthb_eq K a H)
theorem m_fieldfareref1_PutBesttttt_eq (K : AV → AH → Prop) (a : TE) (H : AH) : codeP PP CC (subC (bodyC PP 32) [1, 1, 1, 1]) (m_fieldfareref1_PutBest_K K) a H = m_fieldfareref1_PutBesttttthb K (a 0) (a 1) (a 5) (a 9) H :=
  have h1 : codeP PP CC (subC (bodyC PP 32) [1, 1, 1, 1]) (m_fieldfareref1_PutBest_K K) a H = codeP PP CC (subC (bodyC PP 32) [1, 1, 1, 1, 0]) (m_fieldfareref1_PutBesttttt_k K) a H := by kernel_rfl
  h1.trans (m_fieldfareref1_PutBesttttth_eq K a H)
abbrev m_fieldfareref1_PutBestttt_k (K : AV → AH → Prop) : KP := exP (fun (a : TE) (H : AH) => m_fieldfareref1_PutBesttttthb K (a 0) (a 1) (a 5) (a 9) H) (m_fieldfareref1_PutBest_K K)
def m_fieldfareref1_PutBestttt (K : AV → AH → Prop) (x0 x1 x5 : AV) (H : AH) : Prop :=
  m_fieldfareref1_PutBesttttthb K x0 x1 x5 (.int .i64 0) H
theorem m_fieldfareref1_PutBestttt_eq (K : AV → AH → Prop) (a : TE) (H : AH) : codeP PP CC (subC (bodyC PP 32) [1, 1, 1]) (m_fieldfareref1_PutBest_K K) a H = m_fieldfareref1_PutBestttt K (a 0) (a 1) (a 5) H :=
  have h1 : codeP PP CC (subC (bodyC PP 32) [1, 1, 1]) (m_fieldfareref1_PutBest_K K) a H = codeP PP CC (subC (bodyC PP 32) [1, 1, 1, 0]) (exP (codeP PP CC (subC (bodyC PP 32) [1, 1, 1, 1]) (m_fieldfareref1_PutBest_K K)) (m_fieldfareref1_PutBest_K K)) a H := by kernel_rfl
  have h2 : codeP PP CC (subC (bodyC PP 32) [1, 1, 1, 0]) (exP (codeP PP CC (subC (bodyC PP 32) [1, 1, 1, 1]) (m_fieldfareref1_PutBest_K K)) (m_fieldfareref1_PutBest_K K)) a H = codeP PP CC (subC (bodyC PP 32) [1, 1, 1, 0]) (exP (fun (a : TE) (H : AH) => m_fieldfareref1_PutBesttttthb K (a 0) (a 1) (a 5) (a 9) H) (m_fieldfareref1_PutBest_K K)) a H := congrArg (fun k : KE => codeP PP CC (subC (bodyC PP 32) [1, 1, 1, 0]) (exP k (m_fieldfareref1_PutBest_K K)) a H) (funext fun a => funext fun H => m_fieldfareref1_PutBesttttt_eq K a H)
  have h2b : codeP PP CC (subC (bodyC PP 32) [1, 1, 1, 0]) (exP (fun (a : TE) (H : AH) => m_fieldfareref1_PutBesttttthb K (a 0) (a 1) (a 5) (a 9) H) (m_fieldfareref1_PutBest_K K)) a H = codeP PP CC (subC (bodyC PP 32) [1, 1, 1, 0]) (m_fieldfareref1_PutBestttt_k K) a H := by kernel_rfl
  have h3 : codeP PP CC (subC (bodyC PP 32) [1, 1, 1, 0]) (m_fieldfareref1_PutBestttt_k K) a H = m_fieldfareref1_PutBestttt K (a 0) (a 1) (a 5) H := by kernel_rfl
  ((h1.trans h2).trans h2b).trans h3
abbrev m_fieldfareref1_PutBesttt_k (K : AV → AH → Prop) : KP := exP (fun (a : TE) (H : AH) => m_fieldfareref1_PutBestttt K (a 0) (a 1) (a 5) H) (m_fieldfareref1_PutBest_K K)
def m_fieldfareref1_PutBesttt (K : AV → AH → Prop) (x0 x1 x5 : AV) (H : AH) : Prop :=
  outP CC H (w_int .leq H x0 (.int .i64 0)) fun v1 H1 =>
  guardP (boolIs false v1) H1 (outP CC H1 (some (.val x1 H1))) fun v2 H2 =>
  guardP (boolIs false v1) H2 (outP CC H2 (w_len PP 32 H2 v2)) fun v3 H3 =>
  guardP (boolIs false v1) H3 (outP CC H3 (some (.val x0 H3))) fun v4 H4 =>
  guardP (boolIs false v1) H4 (outP CC H4 (w_int .geq H4 v3 v4)) fun v5 H5 =>
  guardP (boolIs false v1) H5 (outP CC H5 (some (.val v5 H5))) fun v6 H6 =>
  guardP (boolIs true v6) H6 (outP CC H6 (w_load (some 2) H6 x5)) fun v7 H7 =>
  guardP (boolIs true v6) H7 (outP CC H7 (some (.val x1 H7))) fun v8 H8 =>
  guardP (boolIs true v6) H8 (outP CC H8 (some (.val x1 H8))) fun v9 H9 =>
  guardP (boolIs true v6) H9 (outP CC H9 (w_len PP 32 H9 v9)) fun v10 H10 =>
  guardP (boolIs true v6) H10 (outP CC H10 (w_int .sub H10 v10 (.int .i64 1))) fun v11 H11 =>
  guardP (boolIs true v6) H11 (outP CC H11 (w_indexAddr (.sl 2) H11 v8 v11)) fun v12 H12 =>
  guardP (boolIs true v6) H12 (outP CC H12 (w_load (some 2) H12 v12)) fun v13 H13 =>
  guardP (boolIs true v6) H13 (outP CC H13 (some (.enter 71 [v7, v13]))) fun v14 H14 =>
  guardP (boolIs true v6) H14 (outP CC H14 (w_un .not H14 v14)) fun v15 H15 =>
  guardP (boolIs false v1) H15 (outP CC H15 (w_pick H15 v6 v15 (.bool false))) fun v16 H16 =>
  outP CC H16 (w_pick H16 v1 (.bool true) v16) fun v17 H17 =>
  condP v17
  (K (.tup [x1, (.bool false)]) H17)
  (m_fieldfareref1_PutBestttt K x0 x1 x5 H17)
theorem m_fieldfareref1_PutBesttt_eq (K : AV → AH → Prop) (a : TE) (H : AH) : codeP PP CC (subC (bodyC PP 32) [1, 1]) (m_fieldfareref1_PutBest_K K) a H = m_fieldfareref1_PutBesttt K (a 0) (a 1) (a 5) H :=
  have h1 : codeP PP CC (subC (bodyC PP 32) [1, 1]) (m_fieldfareref1_PutBest_K K) a H = codeP PP CC (subC (bodyC PP 32) [1, 1, 0]) (exP (codeP PP CC (subC (bodyC PP 32) [1, 1, 1]) (m_fieldfareref1_PutBest_K K)) (m_fieldfareref1_PutBest_K K)) a H := by kernel_rfl
  have h2 : codeP PP CC (subC (bodyC PP 32) [1, 1, 0]) (exP (codeP PP CC (subC (bodyC PP 32) [1, 1, 1]) (m_fieldfareref1_PutBest_K K)) (m_fieldfareref1_PutBest_K K)) a H = codeP PP CC (subC (bodyC PP 32) [1, 1, 0]) (exP (fun (a : TE) (H : AH) => m_fieldfareref1_PutBestttt K (a 0) (a 1) (a 5) H) (m_fieldfareref1_PutBest_K K)) a H := congrArg (fun k : KE => codeP PP CC (subC (bodyC PP 32) [1, 1, 0]) (exP k (m_fieldfareref1_PutBest_K K)) a H) (funext fun a => funext fun H => m_fieldfareref1_PutBestttt_eq K a H)
  have h2b : codeP PP CC (subC (bodyC PP 32) [1, 1, 0]) (exP (fun (a : TE) (H : AH) => m_fieldfareref1_PutBestttt K (a 0) (a 1) (a 5) H) (m_fieldfareref1_PutBest_K K)) a H = codeP PP CC (subC (bodyC PP 32) [1, 1, 0]) (m_fieldfareref1_PutBesttt_k K) a H := by kernel_rfl
  have h3 : codeP PP CC (subC (bodyC PP 32) [1, 1, 0]) (m_fieldfareref1_PutBesttt_k K) a H = m_fieldfareref1_PutBesttt K (a 0) (a 1) (a 5) H := by kernel_rfl
  ((h1.trans h2).trans h2b).trans h3
abbrev m_fieldfareref1_PutBestt_k (K : AV → AH → Prop) : KP := exP (fun (a : TE) (H : AH) => m_fieldfareref1_PutBesttt K (a 0) (a 1) (a 5) H) (m_fieldfareref1_PutBest_K K)
abbrev m_fieldfareref1_PutBesttht_k (K : AV → AH → Prop) : KP := blockP 0 (m_fieldfareref1_PutBestt_k K)
abbrev m_fieldfareref1_PutBestthtb_k (K : AV → AH → Prop) (r0 : (AV × AV × AV × AV × AV) → AH → Prop) : KP := exP (fun (a : TE) (H : AH) => r0 (a 0, a 1, a 5, a 12, a 13) H) (m_fieldfareref1_PutBesttht_k K)
def m_fieldfareref1_PutBestthtbl (K : AV → AH → Prop) (r0 : (AV × AV × AV × AV × AV) → AH → Prop) (x0 x1 x5 x12 x13 : AV) (H : AH) : Prop :=
  outP CC H (w_int .lss H x13 x12) fun v1 H1 =>
  condP v1
  (outP CC H1 (w_indexAddr (.sl 2) H1 x1 x13) fun v2 H2 =>
  outP CC H2 (w_fieldAddr 0 H2 v2) fun v3 H3 =>
  outP CC H3 (w_load none H3 v3) fun v4 H4 =>
  outP CC H4 (w_fieldAddr 0 H4 x5) fun v5 H5 =>
  outP CC H5 (w_load none H5 v5) fun v6 H6 =>
  outP CC H6 (w_int .eql H6 v4 v6) fun v7 H7 =>
  condP v7
  (K (.tup [x1, (.bool false)]) H7)
  (outP CC H7 (w_int .add H7 x13 (.int .i64 1)) fun v8 H8 =>
  r0 (x0, x1, x5, x12, v8) H8))
  (m_fieldfareref1_PutBesttt K x0 x1 x5 H1)
theorem m_fieldfareref1_PutBestthtbl_eq (K : AV → AH → Prop) (r0 : (AV × AV × AV × AV × AV) → AH → Prop) (a : TE) (H : AH) : codeP PP CC (subC (bodyC PP 32) [1, 0, 1, 0, 0]) (m_fieldfareref1_PutBestthtb_k K r0) a H = m_fieldfareref1_PutBestthtbl K r0 (a 0) (a 1) (a 5) (a 12) (a 13) H :=
  by kernel_rfl
def m_fieldfareref1_PutBestthtb (K : AV → AH → Prop) (x0 x1 x5 x12 x13 : AV) (H : AH) : Prop :=
  loopP (fun (r0 : (AV × AV × AV × AV × AV) → AH → Prop) (s : (AV × AV × AV × AV × AV)) (H : AH) => m_fieldfareref1_PutBestthtbl K r0 s.1 s.2.1 s.2.2.1 s.2.2.2.1 s.2.2.2.2 H) (x0, x1, x5, x12, x13) H
theorem m_fieldfareref1_PutBestthtb_eq (K : AV → AH → Prop) (a : TE) (H : AH) : codeP PP CC (subC (bodyC PP 32) [1, 0, 1, 0]) (m_fieldfareref1_PutBesttht_k K) a H = m_fieldfareref1_PutBestthtb K (a 0) (a 1) (a 5) (a 12) (a 13) H :=
  have h1 : codeP PP CC (subC (bodyC PP 32) [1, 0, 1, 0]) (m_fieldfareref1_PutBesttht_k K) a H = loopP (fun (rec : KE) => codeP PP CC (subC (bodyC PP 32) [1, 0, 1, 0, 0]) (exP rec (m_fieldfareref1_PutBesttht_k K))) a H := by kernel_rfl
  have h2 := loopP_iso (F := fun (rec : KE) => codeP PP CC (subC (bodyC PP 32) [1, 0, 1, 0, 0]) (exP rec (m_fieldfareref1_PutBesttht_k K))) (S := (AV × AV × AV × AV × AV)) (fun a => (a 0, a 1, a 5, a 12, a 13)) (fun (r0 : (AV × AV × AV × AV × AV) → AH → Prop) (s : (AV × AV × AV × AV × AV)) (H : AH) => m_fieldfareref1_PutBestthtbl K r0 s.1 s.2.1 s.2.2.1 s.2.2.2.1 s.2.2.2.2 H) (fun (r0 : (AV × AV × AV × AV × AV) → AH → Prop) (a : TE) (H : AH) => (show codeP PP CC (subC (bodyC PP 32) [1, 0, 1, 0, 0]) (exP (fun (a : TE) (H : AH) => r0 (a 0, a 1, a 5, a 12, a 13) H) (m_fieldfareref1_PutBesttht_k K)) a H = codeP PP CC (subC (bodyC PP 32) [1, 0, 1, 0, 0]) (m_fieldfareref1_PutBestthtb_k K r0) a H from by kernel_rfl).trans (m_fieldfareref1_PutBestthtbl_eq K r0 a H)) a H
  h1.trans h2
theorem m_fieldfareref1_PutBesttht_eq (K : AV → AH → Prop) (a : TE) (H : AH) : codeP PP CC (subC (bodyC PP 32) [1, 0, 1]) (m_fieldfareref1_PutBestt_k K) a H = m_fieldfareref1_PutBestthtb K (a 0) (a 1) (a 5) (a 12) (a 13) H :=
  have h1 : codeP PP CC (subC (bodyC PP 32) [1, 0, 1]) (m_fieldfareref1_PutBestt_k K) a H = codeP PP CC (subC (bodyC PP 32) [1, 0, 1, 0]) (m_fieldfareref1_PutBesttht_k K) a H := by kernel_rfl
  h1.trans (m_fieldfareref1_PutBestthtb_eq K a H)
abbrev m_fieldfareref1_PutBestth_k (K : AV → AH → Prop) : KP := exP (fun (a : TE) (H : AH) => m_fieldfareref1_PutBestthtb K (a 0) (a 1) (a 5) (a 12) (a 13) H) (m_fieldfareref1_PutBestt_k K)
def m_fieldfareref1_PutBestth (K : AV → AH → Prop) (x0 x1 x5 : AV) (H : AH) : Prop :=
  outP CC H (w_len PP 32 H x1) fun v1 H1 =>
  m_fieldfareref1_PutBestthtb K x0 x1 x5 v1 (.int .i64 0) H1
theorem m_fieldfareref1_PutBestth_eq (K : AV → AH → Prop) (a : TE) (H : AH) : codeP PP CC (subC (bodyC PP 32) [1, 0]) (m_fieldfareref1_PutBestt_k K) a H = m_fieldfareref1_PutBestth K (a 0) (a 1) (a 5) H :=
  have h1 : codeP PP CC (subC (bodyC PP 32) [1, 0]) (m_fieldfareref1_PutBestt_k K) a H = codeP PP CC (subC (bodyC PP 32) [1, 0, 0]) (exP (codeP PP CC (subC (bodyC PP 32) [1, 0, 1]) (m_fieldfareref1_PutBestt_k K)) (m_fieldfareref1_PutBestt_k K)) a H := by kernel_rfl
  have h2 : codeP PP CC (subC (bodyC PP 32) [1, 0, 0]) (exP (codeP PP CC (subC (bodyC PP 32) [1, 0, 1]) (m_fieldfareref1_PutBestt_k K)) (m_fieldfareref1_PutBestt_k K)) a H = codeP PP CC (subC (bodyC PP 32) [1, 0, 0]) (exP (fun (a : TE) (H : AH) => m_fieldfareref1_PutBestthtb K (a 0) (a 1) (a 5) (a 12) (a 13) H) (m_fieldfareref1_PutBestt_k K)) a H := congrArg (fun k : KE => codeP PP CC (subC (bodyC PP 32) [1, 0, 0]) (exP k (m_fieldfareref1_PutBestt_k K)) a H) (funext fun a => funext fun H => m_fieldfareref1_PutBesttht_eq K a H)
  have h2b : codeP PP CC (subC (bodyC PP 32) [1, 0, 0]) (exP (fun (a : TE) (H : AH) => m_fieldfareref1_PutBestthtb K (a 0) (a 1) (a 5) (a 12) (a 13) H) (m_fieldfareref1_PutBestt_k K)) a H = codeP PP CC (subC (bodyC PP 32) [1, 0, 0]) (m_fieldfareref1_PutBestth_k K) a H := by kernel_rfl
  have h3 : codeP PP CC (subC (bodyC PP 32) [1, 0, 0]) (m_fieldfareref1_PutBestth_k K) a H = m_fieldfareref1_PutBestth K (a 0) (a 1) (a 5) H := by kernel_rfl
  ((h1.trans h2).trans h2b).trans h3
theorem m_fieldfareref1_PutBestt_eq (K : AV → AH → Prop) (a : TE) (H : AH) : codeP PP CC (subC (bodyC PP 32) [1]) (m_fieldfareref1_PutBest_K K) a H = m_fieldfareref1_PutBestth K (a 0) (a 1) (a 5) H :=
  have h1 : codeP PP CC (subC (bodyC PP 32) [1]) (m_fieldfareref1_PutBest_K K) a H = codeP PP CC (subC (bodyC PP 32) [1, 0]) (exP (codeP PP CC (subC (bodyC PP 32) [1, 1]) (m_fieldfareref1_PutBest_K K)) (m_fieldfareref1_PutBest_K K)) a H := by kernel_rfl
  have h2 : codeP PP CC (subC (bodyC PP 32) [1, 0]) (exP (codeP PP CC (subC (bodyC PP 32) [1, 1]) (m_fieldfareref1_PutBest_K K)) (m_fieldfareref1_PutBest_K K)) a H = codeP PP CC (subC (bodyC PP 32) [1, 0]) (exP (fun (a : TE) (H : AH) => m_fieldfareref1_PutBesttt K (a 0) (a 1) (a 5) H) (m_fieldfareref1_PutBest_K K)) a H := congrArg (fun k : KE => codeP PP CC (subC (bodyC PP 32) [1, 0]) (exP k (m_fieldfareref1_PutBest_K K)) a H) (funext fun a => funext fun H => m_fieldfareref1_PutBesttt_eq K a H)
  have h2b : codeP PP CC (subC (bodyC PP 32) [1, 0]) (exP (fun (a : TE) (H : AH) => m_fieldfareref1_PutBesttt K (a 0) (a 1) (a 5) H) (m_fieldfareref1_PutBest_K K)) a H = codeP PP CC (subC (bodyC PP 32) [1, 0]) (m_fieldfareref1_PutBestt_k K) a H := by kernel_rfl
  ((h1.trans h2).trans h2b).trans (m_fieldfareref1_PutBestth_eq K a H)
abbrev m_fieldfareref1_PutBest_k (K : AV → AH → Prop) : KP := exP (fun (a : TE) (H : AH) => m_fieldfareref1_PutBestth K (a 0) (a 1) (a 5) H) (m_fieldfareref1_PutBest_K K)
def m_fieldfareref1_PutBest (K : AV → AH → Prop) (x0 x1 x2 : AV) (H : AH) : Prop :=
  outP CC H (w_box 37 H x2 none) fun v1 H1 =>
  m_fieldfareref1_PutBestth K x0 x1 v1 H1
theorem m_fieldfareref1_PutBest_eq (K : AV → AH → Prop) (a : TE) (H : AH) : codeP PP CC (subC (bodyC PP 32) []) (m_fieldfareref1_PutBest_K K) a H = m_fieldfareref1_PutBest K (a 0) (a 1) (a 2) H :=
  have h1 : codeP PP CC (subC (bodyC PP 32) []) (m_fieldfareref1_PutBest_K K) a H = codeP PP CC (subC (bodyC PP 32) [0]) (exP (codeP PP CC (subC (bodyC PP 32) [1]) (m_fieldfareref1_PutBest_K K)) (m_fieldfareref1_PutBest_K K)) a H := by kernel_rfl
  have h2 : codeP PP CC (subC (bodyC PP 32) [0]) (exP (codeP PP CC (subC (bodyC PP 32) [1]) (m_fieldfareref1_PutBest_K K)) (m_fieldfareref1_PutBest_K K)) a H = codeP PP CC (subC (bodyC PP 32) [0]) (exP (fun (a : TE) (H : AH) => m_fieldfareref1_PutBestth K (a 0) (a 1) (a 5) H) (m_fieldfareref1_PutBest_K K)) a H := congrArg (fun k : KE => codeP PP CC (subC (bodyC PP 32) [0]) (exP k (m_fieldfareref1_PutBest_K K)) a H) (funext fun a => funext fun H => m_fieldfareref1_PutBestt_eq K a H)
  have h2b : codeP PP CC (subC (bodyC PP 32) [0]) (exP (fun (a : TE) (H : AH) => m_fieldfareref1_PutBestth K (a 0) (a 1) (a 5) H) (m_fieldfareref1_PutBest_K K)) a H = codeP PP CC (subC (bodyC PP 32) [0]) (m_fieldfareref1_PutBest_k K) a H := by kernel_rfl
  have h3 : codeP PP CC (subC (bodyC PP 32) [0]) (m_fieldfareref1_PutBest_k K) a H = m_fieldfareref1_PutBest K (a 0) (a 1) (a 2) H := by kernel_rfl
  ((h1.trans h2).trans h2b).trans h3
theorem m_fieldfareref1_PutBest_ok (x0 x1 x2 : AV) (H : AH) (K : AV → AH → Prop) (h : m_fieldfareref1_PutBest K x0 x1 x2 H) : CC.call 32 [x0, x1, x2] H K :=
  have h1 : funP PP CC 32 [x0, x1, x2] H K = codeP PP CC (subC (bodyC PP 32) []) (m_fieldfareref1_PutBest_K K) (argE [x0, x1, x2]) H := by kernel_rfl
  have h2 : m_fieldfareref1_PutBest K (argE [x0, x1, x2] 0) (argE [x0, x1, x2] 1) (argE [x0, x1, x2] 2) H = m_fieldfareref1_PutBest K x0 x1 x2 H := by kernel_rfl
  funP_ok (P := PP) (by kernel_rfl) (by kernel_rfl) ((h1.trans ((m_fieldfareref1_PutBest_eq K (argE [x0, x1, x2]) H).trans h2)).mpr h)

/-! 71: fieldfare/fieldfareref1.Less -/
abbrev m_fieldfareref1_Less_K (K : AV → AH → Prop) : KP := finP PP (resC PP 71) K
def m_fieldfareref1_Less (K : AV → AH → Prop) (x0 x1 : AV) (H : AH) : Prop :=
  outP CC H (w_box 37 H x0 none) fun v1 H1 =>
  outP CC H1 (w_box 37 H1 x1 none) fun v2 H2 =>
  outP CC H2 (w_fieldAddr 1 H2 v1) fun v3 H3 =>
  outP CC H3 (w_load none H3 v3) fun v4 H4 =>
  outP CC H4 (w_fieldAddr 1 H4 v2) fun v5 H5 =>
  outP CC H5 (w_load none H5 v5) fun v6 H6 =>
  outP CC H6 (w_int .lss H6 v4 v6) fun v7 H7 =>
  guardP (boolIs false v7) H7 (outP CC H7 (w_fieldAddr 1 H7 v1)) fun v8 H8 =>
  guardP (boolIs false v7) H8 (outP CC H8 (w_load none H8 v8)) fun v9 H9 =>
  guardP (boolIs false v7) H9 (outP CC H9 (w_fieldAddr 1 H9 v2)) fun v10 H10 =>
  guardP (boolIs false v7) H10 (outP CC H10 (w_load none H10 v10)) fun v11 H11 =>
  guardP (boolIs false v7) H11 (outP CC H11 (w_int .eql H11 v9 v11)) fun v12 H12 =>
  guardP (boolIs false v7) H12 (outP CC H12 (some (.val v12 H12))) fun v13 H13 =>
  guardP (boolIs true v13) H13 (outP CC H13 (w_fieldAddr 0 H13 v1)) fun v14 H14 =>
  guardP (boolIs true v13) H14 (outP CC H14 (w_load none H14 v14)) fun v15 H15 =>
  guardP (boolIs true v13) H15 (outP CC H15 (w_fieldAddr 0 H15 v2)) fun v16 H16 =>
  guardP (boolIs true v13) H16 (outP CC H16 (w_load none H16 v16)) fun v17 H17 =>
  guardP (boolIs true v13) H17 (outP CC H17 (w_int .lss H17 v15 v17)) fun v18 H18 =>
  guardP (boolIs false v7) H18 (outP CC H18 (w_pick H18 v13 v18 (.bool false))) fun v19 H19 =>
  outP CC H19 (w_pick H19 v7 (.bool true) v19) fun v20 H20 =>
  K v20 H20
theorem m_fieldfareref1_Less_eq (K : AV → AH → Prop) (a : TE) (H : AH) : codeP PP CC (subC (bodyC PP 71) []) (m_fieldfareref1_Less_K K) a H = m_fieldfareref1_Less K (a 0) (a 1) H :=
  by kernel_rfl
theorem m_fieldfareref1_Less_ok (x0 x1 : AV) (H : AH) (K : AV → AH → Prop) (h : m_fieldfareref1_Less K x0 x1 H) : CC.call 71 [x0, x1] H K :=
  have h1 : funP PP CC 71 [x0, x1] H K = codeP PP CC (subC (bodyC PP 71) []) (m_fieldfareref1_Less_K K) (argE [x0, x1]) H := by kernel_rfl
  have h2 : m_fieldfareref1_Less K (argE [x0, x1] 0) (argE [x0, x1] 1) H = m_fieldfareref1_Less K x0 x1 H := by kernel_rfl
  funP_ok (P := PP) (by kernel_rfl) (by kernel_rfl) ((h1.trans ((m_fieldfareref1_Less_eq K (argE [x0, x1]) H).trans h2)).mpr h)

end
end Go.Ab
