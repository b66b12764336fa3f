/- What functions do, said as what the evaluator does. Printed by a program. -/
import Derived.Test.YtbahknfffhijlaaGreatDoorPrim8
import Derived.Test.YtbahknfffhijlaaGreatDoorEv3
namespace Go.Ab
noncomputable section
open Go.Proofs
set_option maxRecDepth 100000



/-! 3: fieldfare/fieldfarelaw7.PoolWhole -/
abbrev m_fieldfarelaw7_PoolWhole_K (K : AV → AH → Prop) : KP := finP PP (resC PP 3) K
abbrev m_fieldfarelaw7_PoolWholetttttttt_k (K : AV → AH → Prop) : KP := exP (codeP PP C8 (subC (bodyC PP 3) [1, 1, 1, 1, 1, 1, 1, 1, 1]) (m_fieldfarelaw7_PoolWhole_K K)) (m_fieldfarelaw7_PoolWhole_K K)
abbrev m_fieldfarelaw7_PoolWholettttttttht_k (K : AV → AH → Prop) : KP := blockP 2 (m_fieldfarelaw7_PoolWholetttttttt_k K)
abbrev m_fieldfarelaw7_PoolWholetttttttthtb_k (K : AV → AH → Prop) (r0 : (AV × AV × AV × AV × AV × AV) → AH → Prop) : KP := exP (fun (a : TE) (H : AH) => r0 (a 0, a 6, a 8, a 9, a 50, a 51) H) (m_fieldfarelaw7_PoolWholettttttttht_k K)
abbrev m_fieldfarelaw7_PoolWholetttttttthtbltt_k (K : AV → AH → Prop) (r0 : (AV × AV × AV × AV × AV × AV) → AH → Prop) : KP := exP (codeP PP C8 (subC (bodyC PP 3) [1, 1, 1, 1, 1, 1, 1, 1, 0, 1, 0, 0, 1, 1, 1]) (m_fieldfarelaw7_PoolWholetttttttthtb_k K r0)) (m_fieldfarelaw7_PoolWholetttttttthtb_k K r0)
abbrev m_fieldfarelaw7_PoolWholetttttttthtbltth_k (K : AV → AH → Prop) (r0 : (AV × AV × AV × AV × AV × AV) → AH → Prop) : KP := blockP 3 (m_fieldfarelaw7_PoolWholetttttttthtbltt_k K r0)
abbrev m_fieldfarelaw7_PoolWholetttttttthtbltthbtttt_k (K : AV → AH → Prop) (r0 : (AV × AV × AV × AV × AV × AV) → AH → Prop) : KP := blockP 4 (m_fieldfarelaw7_PoolWholetttttttthtbltth_k K r0)
abbrev m_fieldfarelaw7_PoolWholetttttttthtbltthbttttb_k (K : AV → AH → Prop) (r0 : (AV × AV × AV × AV × AV × AV) → AH → Prop) (r1 : (AV × AV × AV × AV × AV × AV × AV × AV × AV) → AH → Prop) : KP := exP (fun (a : TE) (H : AH) => r1 (a 0, a 6, a 8, a 9, a 11, a 50, a 51, a 80, a 81) H) (m_fieldfarelaw7_PoolWholetttttttthtbltthbtttt_k K r0)
def m_fieldfarelaw7_PoolWholetttttttthtbltthbttttbl (K : AV → AH → Prop) (r0 : (AV × AV × AV × AV × AV × AV) → AH → Prop) (r1 : (AV × AV × AV × AV × AV × AV × AV × AV × AV) → AH → Prop) (x0 x6 x8 x9 x11 x50 x51 x80 x81 : AV) (H : AH) : Prop :=
  outP C8 H (w_int .lss H x81 x80) fun v1 H1 =>
  condP v1
  (outP C8 H1 (w_indexAddr (.sl 1) H1 x11 x81) fun v2 H2 =>
  outP C8 H2 (w_load none H2 v2) fun v3 H3 =>
  outP C8 H3 (w_lookup PP 3 4 false H3 x8 v3) fun v4 H4 =>
  guardP (boolIs false v4) H4 (outP C8 H4 (some (.val x11 H4))) fun v5 H5 =>
  guardP (boolIs false v4) H5 (outP C8 H5 (some (.val x81 H5))) fun v6 H6 =>
  guardP (boolIs false v4) H6 (outP C8 H6 (w_indexAddr (.sl 1) H6 v5 v6)) fun v7 H7 =>
  guardP (boolIs false v4) H7 (outP C8 H7 (w_load none H7 v7)) fun v8 H8 =>
  guardP (boolIs false v4) H8 (outP C8 H8 (w_int .lss H8 v8 (.int .i64 0))) fun v9 H9 =>
  outP C8 H9 (w_pick H9 v4 (.bool true) v9) fun v10 H10 =>
  guardP (boolIs false v10) H10 (outP C8 H10 (some (.val x11 H10))) fun v11 H11 =>
  guardP (boolIs false v10) H11 (outP C8 H11 (some (.val x81 H11))) fun v12 H12 =>
  guardP (boolIs false v10) H12 (outP C8 H12 (w_indexAddr (.sl 1) H12 v11 v12)) fun v13 H13 =>
  guardP (boolIs false v10) H13 (outP C8 H13 (w_load none H13 v13)) fun v14 H14 =>
  guardP (boolIs false v10) H14 (outP C8 H14 (some (.val x0 H14))) fun v15 H15 =>
  guardP (boolIs false v10) H15 (outP C8 H15 (w_int .geq H15 v14 v15)) fun v16 H16 =>
  outP C8 H16 (w_pick H16 v10 (.bool true) v16) fun v17 H17 =>
  guardP (boolIs false v17) H17 (outP C8 H17 (some (.val x81 H17))) fun v18 H18 =>
  guardP (boolIs false v17) H18 (outP C8 H18 (w_int .gtr H18 v18 (.int .i64 0))) fun v19 H19 =>
  guardP (boolIs false v17) H19 (outP C8 H19 (some (.val v19 H19))) fun v20 H20 =>
  guardP (boolIs true v20) H20 (outP C8 H20 (some (.val x11 H20))) fun v21 H21 =>
  guardP (boolIs true v20) H21 (outP C8 H21 (some (.val x81 H21))) fun v22 H22 =>
  guardP (boolIs true v20) H22 (outP C8 H22 (w_int .sub H22 v22 (.int .i64 1))) fun v23 H23 =>
  guardP (boolIs true v20) H23 (outP C8 H23 (w_indexAddr (.sl 1) H23 v21 v23)) fun v24 H24 =>
  guardP (boolIs true v20) H24 (outP C8 H24 (w_load none H24 v24)) fun v25 H25 =>
  guardP (boolIs true v20) H25 (outP C8 H25 (some (.val x11 H25))) fun v26 H26 =>
  guardP (boolIs true v20) H26 (outP C8 H26 (some (.val x81 H26))) fun v27 H27 =>
  guardP (boolIs true v20) H27 (outP C8 H27 (w_indexAddr (.sl 1) H27 v26 v27)) fun v28 H28 =>
  guardP (boolIs true v20) H28 (outP C8 H28 (w_load none H28 v28)) fun v29 H29 =>
  guardP (boolIs true v20) H29 (outP C8 H29 (w_int .geq H29 v25 v29)) fun v30 H30 =>
  guardP (boolIs false v17) H30 (outP C8 H30 (w_pick H30 v20 v30 (.bool false))) fun v31 H31 =>
  outP C8 H31 (w_pick H31 v17 (.bool true) v31) fun v32 H32 =>
  condP v32
  (K (.bool false) H32)
  (outP C8 H32 (w_indexAddr (.sl 1) H32 x11 x81) fun v33 H33 =>
  outP C8 H33 (w_load none H33 v33) fun v34 H34 =>
  outP C8 H34 (w_mapUpdate PP 3 4 H34 x8 v34 (.bool true)) fun _v35 H35 =>
  outP C8 H35 (w_int .add H35 x81 (.int .i64 1)) fun v36 H36 =>
  r1 (x0, x6, x8, x9, x11, x50, x51, x80, v36) H36))
  (outP C8 H1 (w_int .add H1 x51 (.int .i64 1)) fun v37 H37 =>
  r0 (x0, x6, x8, x9, x50, v37) H37)
theorem m_fieldfarelaw7_PoolWholetttttttthtbltthbttttbl_eq (K : AV → AH → Prop) (r0 : (AV × AV × AV × AV × AV × AV) → AH → Prop) (r1 : (AV × AV × AV × AV × AV × AV × AV × AV × AV) → AH → Prop) (a : TE) (H : AH) : codeP PP C8 (subC (bodyC PP 3) [1, 1, 1, 1, 1, 1, 1, 1, 0, 1, 0, 0, 1, 1, 0, 0, 1, 1, 1, 1, 0, 0]) (m_fieldfarelaw7_PoolWholetttttttthtbltthbttttb_k K r0 r1) a H = m_fieldfarelaw7_PoolWholetttttttthtbltthbttttbl K r0 r1 (a 0) (a 6) (a 8) (a 9) (a 11) (a 50) (a 51) (a 80) (a 81) H :=
  by kernel_rfl
def m_fieldfarelaw7_PoolWholetttttttthtbltthbttttb (K : AV → AH → Prop) (r0 : (AV × AV × AV × AV × AV × AV) → AH → Prop) (x0 x6 x8 x9 x11 x50 x51 x80 x81 : AV) (H : AH) : Prop :=
  loopP (fun (r1 : (AV × AV × AV × AV × AV × AV × AV × AV × AV) → AH → Prop) (s : (AV × AV × AV × AV × AV × AV × AV × AV × AV)) (H : AH) => m_fieldfarelaw7_PoolWholetttttttthtbltthbttttbl K r0 r1 s.1 s.2.1 s.2.2.1 s.2.2.2.1 s.2.2.2.2.1 s.2.2.2.2.2.1 s.2.2.2.2.2.2.1 s.2.2.2.2.2.2.2.1 s.2.2.2.2.2.2.2.2 H) (x0, x6, x8, x9, x11, x50, x51, x80, x81) H
theorem m_fieldfarelaw7_PoolWholetttttttthtbltthbttttb_eq (K : AV → AH → Prop) (r0 : (AV × AV × AV × AV × AV × AV) → AH → Prop) (a : TE) (H : AH) : codeP PP C8 (subC (bodyC PP 3) [1, 1, 1, 1, 1, 1, 1, 1, 0, 1, 0, 0, 1, 1, 0, 0, 1, 1, 1, 1, 0]) (m_fieldfarelaw7_PoolWholetttttttthtbltthbtttt_k K r0) a H = m_fieldfarelaw7_PoolWholetttttttthtbltthbttttb K r0 (a 0) (a 6) (a 8) (a 9) (a 11) (a 50) (a 51) (a 80) (a 81) H :=
  have h1 : codeP PP C8 (subC (bodyC PP 3) [1, 1, 1, 1, 1, 1, 1, 1, 0, 1, 0, 0, 1, 1, 0, 0, 1, 1, 1, 1, 0]) (m_fieldfarelaw7_PoolWholetttttttthtbltthbtttt_k K r0) a H = loopP (fun (rec : KE) => codeP PP C8 (subC (bodyC PP 3) [1, 1, 1, 1, 1, 1, 1, 1, 0, 1, 0, 0, 1, 1, 0, 0, 1, 1, 1, 1, 0, 0]) (exP rec (m_fieldfarelaw7_PoolWholetttttttthtbltthbtttt_k K r0))) a H := by kernel_rfl
  have h2 := loopP_iso (F := fun (rec : KE) => codeP PP C8 (subC (bodyC PP 3) [1, 1, 1, 1, 1, 1, 1, 1, 0, 1, 0, 0, 1, 1, 0, 0, 1, 1, 1, 1, 0, 0]) (exP rec (m_fieldfarelaw7_PoolWholetttttttthtbltthbtttt_k K r0))) (S := (AV × AV × AV × AV × AV × AV × AV × AV × AV)) (fun a => (a 0, a 6, a 8, a 9, a 11, a 50, a 51, a 80, a 81)) (fun (r1 : (AV × AV × AV × AV × AV × AV × AV × AV × AV) → AH → Prop) (s : (AV × AV × AV × AV × AV × AV × AV × AV × AV)) (H : AH) => m_fieldfarelaw7_PoolWholetttttttthtbltthbttttbl K r0 r1 s.1 s.2.1 s.2.2.1 s.2.2.2.1 s.2.2.2.2.1 s.2.2.2.2.2.1 s.2.2.2.2.2.2.1 s.2.2.2.2.2.2.2.1 s.2.2.2.2.2.2.2.2 H) (fun (r1 : (AV × AV × AV × AV × AV × AV × AV × AV × AV) → AH → Prop) (a : TE) (H : AH) => (show codeP PP C8 (subC (bodyC PP 3) [1, 1, 1, 1, 1, 1, 1, 1, 0, 1, 0, 0, 1, 1, 0, 0, 1, 1, 1, 1, 0, 0]) (exP (fun (a : TE) (H : AH) => r1 (a 0, a 6, a 8, a 9, a 11, a 50, a 51, a 80, a 81) H) (m_fieldfarelaw7_PoolWholetttttttthtbltthbtttt_k K r0)) a H = codeP PP C8 (subC (bodyC PP 3) [1, 1, 1, 1, 1, 1, 1, 1, 0, 1, 0, 0, 1, 1, 0, 0, 1, 1, 1, 1, 0, 0]) (m_fieldfarelaw7_PoolWholetttttttthtbltthbttttb_k K r0 r1) a H from by kernel_rfl).trans (m_fieldfarelaw7_PoolWholetttttttthtbltthbttttbl_eq K r0 r1 a H)) a H
  h1.trans h2
theorem m_fieldfarelaw7_PoolWholetttttttthtbltthbtttt_eq (K : AV → AH → Prop) (r0 : (AV × AV × AV × AV × AV × AV) → AH → Prop) (a : TE) (H : AH) : codeP PP C8 (subC (bodyC PP 3) [1, 1, 1, 1, 1, 1, 1, 1, 0, 1, 0, 0, 1, 1, 0, 0, 1, 1, 1, 1]) (m_fieldfarelaw7_PoolWholetttttttthtbltth_k K r0) a H = m_fieldfarelaw7_PoolWholetttttttthtbltthbttttb K r0 (a 0) (a 6) (a 8) (a 9) (a 11) (a 50) (a 51) (a 80) (a 81) H :=
  have h1 : codeP PP C8 (subC (bodyC PP 3) [1, 1, 1, 1, 1, 1, 1, 1, 0, 1, 0, 0, 1, 1, 0, 0, 1, 1, 1, 1]) (m_fieldfarelaw7_PoolWholetttttttthtbltth_k K r0) a H = codeP PP C8 (subC (bodyC PP 3) [1, 1, 1, 1, 1, 1, 1, 1, 0, 1, 0, 0, 1, 1, 0, 0, 1, 1, 1, 1, 0]) (m_fieldfarelaw7_PoolWholetttttttthtbltthbtttt_k K r0) a H := by kernel_rfl
  h1.trans (m_fieldfarelaw7_PoolWholetttttttthtbltthbttttb_eq K r0 a H)
abbrev m_fieldfarelaw7_PoolWholetttttttthtbltthbttt_k (K : AV → AH → Prop) (r0 : (AV × AV × AV × AV × AV × AV) → AH → Prop) : KP := exP (fun (a : TE) (H : AH) => m_fieldfarelaw7_PoolWholetttttttthtbltthbttttb K r0 (a 0) (a 6) (a 8) (a 9) (a 11) (a 50) (a 51) (a 80) (a 81) H) (m_fieldfarelaw7_PoolWholetttttttthtbltth_k K r0)
def m_fieldfarelaw7_PoolWholetttttttthtbltthbttt (K : AV → AH → Prop) (r0 : (AV × AV × AV × AV × AV × AV) → AH → Prop) (x0 x6 x8 x9 x11 x50 x51 : AV) (H : AH) : Prop :=
  outP C8 H (w_len PP 31 H x11) fun v1 H1 =>
  m_fieldfarelaw7_PoolWholetttttttthtbltthbttttb K r0 x0 x6 x8 x9 x11 x50 x51 v1 (.int .i64 0) H1
theorem m_fieldfarelaw7_PoolWholetttttttthtbltthbttt_eq (K : AV → AH → Prop) (r0 : (AV × AV × AV × AV × AV × AV) → AH → Prop) (a : TE) (H : AH) : codeP PP C8 (subC (bodyC PP 3) [1, 1, 1, 1, 1, 1, 1, 1, 0, 1, 0, 0, 1, 1, 0, 0, 1, 1, 1]) (m_fieldfarelaw7_PoolWholetttttttthtbltth_k K r0) a H = m_fieldfarelaw7_PoolWholetttttttthtbltthbttt K r0 (a 0) (a 6) (a 8) (a 9) (a 11) (a 50) (a 51) H :=
  have h1 : codeP PP C8 (subC (bodyC PP 3) [1, 1, 1, 1, 1, 1, 1, 1, 0, 1, 0, 0, 1, 1, 0, 0, 1, 1, 1]) (m_fieldfarelaw7_PoolWholetttttttthtbltth_k K r0) a H = codeP PP C8 (subC (bodyC PP 3) [1, 1, 1, 1, 1, 1, 1, 1, 0, 1, 0, 0, 1, 1, 0, 0, 1, 1, 1, 0]) (exP (codeP PP C8 (subC (bodyC PP 3) [1, 1, 1, 1, 1, 1, 1, 1, 0, 1, 0, 0, 1, 1, 0, 0, 1, 1, 1, 1]) (m_fieldfarelaw7_PoolWholetttttttthtbltth_k K r0)) (m_fieldfarelaw7_PoolWholetttttttthtbltth_k K r0)) a H := by kernel_rfl
  have h2 : codeP PP C8 (subC (bodyC PP 3) [1, 1, 1, 1, 1, 1, 1, 1, 0, 1, 0, 0, 1, 1, 0, 0, 1, 1, 1, 0]) (exP (codeP PP C8 (subC (bodyC PP 3) [1, 1, 1, 1, 1, 1, 1, 1, 0, 1, 0, 0, 1, 1, 0, 0, 1, 1, 1, 1]) (m_fieldfarelaw7_PoolWholetttttttthtbltth_k K r0)) (m_fieldfarelaw7_PoolWholetttttttthtbltth_k K r0)) a H = codeP PP C8 (subC (bodyC PP 3) [1, 1, 1, 1, 1, 1, 1, 1, 0, 1, 0, 0, 1, 1, 0, 0, 1, 1, 1, 0]) (exP (fun (a : TE) (H : AH) => m_fieldfarelaw7_PoolWholetttttttthtbltthbttttb K r0 (a 0) (a 6) (a 8) (a 9) (a 11) (a 50) (a 51) (a 80) (a 81) H) (m_fieldfarelaw7_PoolWholetttttttthtbltth_k K r0)) a H := congrArg (fun k : KE => codeP PP C8 (subC (bodyC PP 3) [1, 1, 1, 1, 1, 1, 1, 1, 0, 1, 0, 0, 1, 1, 0, 0, 1, 1, 1, 0]) (exP k (m_fieldfarelaw7_PoolWholetttttttthtbltth_k K r0)) a H) (funext fun a => funext fun H => m_fieldfarelaw7_PoolWholetttttttthtbltthbtttt_eq K r0 a H)
  have h2b : codeP PP C8 (subC (bodyC PP 3) [1, 1, 1, 1, 1, 1, 1, 1, 0, 1, 0, 0, 1, 1, 0, 0, 1, 1, 1, 0]) (exP (fun (a : TE) (H : AH) => m_fieldfarelaw7_PoolWholetttttttthtbltthbttttb K r0 (a 0) (a 6) (a 8) (a 9) (a 11) (a 50) (a 51) (a 80) (a 81) H) (m_fieldfarelaw7_PoolWholetttttttthtbltth_k K r0)) a H = codeP PP C8 (subC (bodyC PP 3) [1, 1, 1, 1, 1, 1, 1, 1, 0, 1, 0, 0, 1, 1, 0, 0, 1, 1, 1, 0]) (m_fieldfarelaw7_PoolWholetttttttthtbltthbttt_k K r0) a H := by kernel_rfl
  have h3 : codeP PP C8 (subC (bodyC PP 3) [1, 1, 1, 1, 1, 1, 1, 1, 0, 1, 0, 0, 1, 1, 0, 0, 1, 1, 1, 0]) (m_fieldfarelaw7_PoolWholetttttttthtbltthbttt_k K r0) a H = m_fieldfarelaw7_PoolWholetttttttthtbltthbttt K r0 (a 0) (a 6) (a 8) (a 9) (a 11) (a 50) (a 51) H := by kernel_rfl
  ((h1.trans h2).trans h2b).trans h3
abbrev m_fieldfarelaw7_PoolWholetttttttthtbltthbtt_k (K : AV → AH → Prop) (r0 : (AV × AV × AV × AV × AV × AV) → AH → Prop) : KP := exP (fun (a : TE) (H : AH) => m_fieldfarelaw7_PoolWholetttttttthtbltthbttt K r0 (a 0) (a 6) (a 8) (a 9) (a 11) (a 50) (a 51) H) (m_fieldfarelaw7_PoolWholetttttttthtbltth_k K r0)
def m_fieldfarelaw7_PoolWholetttttttthtbltthbtt (K : AV → AH → Prop) (r0 : (AV × AV × AV × AV × AV × AV) → AH → Prop) (x0 x6 x8 x9 x10 x11 x50 x51 : AV) (H : AH) : Prop :=
  outP C8 H (w_int .gtr H x10 (.int .i64 0)) fun v1 H1 =>
  guardP (boolIs true v1) H1 (outP C8 H1 (some (.val x9 H1))) fun v2 H2 =>
  guardP (boolIs true v1) H2 (outP C8 H2 (some (.val x10 H2))) fun v3 H3 =>
  guardP (boolIs true v1) H3 (outP C8 H3 (w_int .sub H3 v3 (.int .i64 1))) fun v4 H4 =>
  guardP (boolIs true v1) H4 (outP C8 H4 (w_indexAddr (.sl 1) H4 v2 v4)) fun v5 H5 =>
  guardP (boolIs true v1) H5 (outP C8 H5 (w_load none H5 v5)) fun v6 H6 =>
  guardP (boolIs true v1) H6 (outP C8 H6 (some (.val x9 H6))) fun v7 H7 =>
  guardP (boolIs true v1) H7 (outP C8 H7 (some (.val x10 H7))) fun v8 H8 =>
  guardP (boolIs true v1) H8 (outP C8 H8 (w_indexAddr (.sl 1) H8 v7 v8)) fun v9 H9 =>
  guardP (boolIs true v1) H9 (outP C8 H9 (w_load none H9 v9)) fun v10 H10 =>
  guardP (boolIs true v1) H10 (outP C8 H10 (w_int .geq H10 v6 v10)) fun v11 H11 =>
  outP C8 H11 (w_pick H11 v1 v11 (.bool false)) fun v12 H12 =>
  guardP (boolIs false v12) H12 (outP C8 H12 (some (.val x11 H12))) fun v13 H13 =>
  guardP (boolIs false v12) H13 (outP C8 H13 (w_len PP 31 H13 v13)) fun v14 H14 =>
  guardP (boolIs false v12) H14 (outP C8 H14 (w_int .eql H14 v14 (.int .i64 0))) fun v15 H15 =>
  outP C8 H15 (w_pick H15 v12 (.bool true) v15) fun v16 H16 =>
  condP v16
  (K (.bool false) H16)
  (m_fieldfarelaw7_PoolWholetttttttthtbltthbttt K r0 x0 x6 x8 x9 x11 x50 x51 H16)
theorem m_fieldfarelaw7_PoolWholetttttttthtbltthbtt_eq (K : AV → AH → Prop) (r0 : (AV × AV × AV × AV × AV × AV) → AH → Prop) (a : TE) (H : AH) : codeP PP C8 (subC (bodyC PP 3) [1, 1, 1, 1, 1, 1, 1, 1, 0, 1, 0, 0, 1, 1, 0, 0, 1, 1]) (m_fieldfarelaw7_PoolWholetttttttthtbltth_k K r0) a H = m_fieldfarelaw7_PoolWholetttttttthtbltthbtt K r0 (a 0) (a 6) (a 8) (a 9) (a 10) (a 11) (a 50) (a 51) H :=
  have h1 : codeP PP C8 (subC (bodyC PP 3) [1, 1, 1, 1, 1, 1, 1, 1, 0, 1, 0, 0, 1, 1, 0, 0, 1, 1]) (m_fieldfarelaw7_PoolWholetttttttthtbltth_k K r0) a H = codeP PP C8 (subC (bodyC PP 3) [1, 1, 1, 1, 1, 1, 1, 1, 0, 1, 0, 0, 1, 1, 0, 0, 1, 1, 0]) (exP (codeP PP C8 (subC (bodyC PP 3) [1, 1, 1, 1, 1, 1, 1, 1, 0, 1, 0, 0, 1, 1, 0, 0, 1, 1, 1]) (m_fieldfarelaw7_PoolWholetttttttthtbltth_k K r0)) (m_fieldfarelaw7_PoolWholetttttttthtbltth_k K r0)) a H := by kernel_rfl
  have h2 : codeP PP C8 (subC (bodyC PP 3) [1, 1, 1, 1, 1, 1, 1, 1, 0, 1, 0, 0, 1, 1, 0, 0, 1, 1, 0]) (exP (codeP PP C8 (subC (bodyC PP 3) [1, 1, 1, 1, 1, 1, 1, 1, 0, 1, 0, 0, 1, 1, 0, 0, 1, 1, 1]) (m_fieldfarelaw7_PoolWholetttttttthtbltth_k K r0)) (m_fieldfarelaw7_PoolWholetttttttthtbltth_k K r0)) a H = codeP PP C8 (subC (bodyC PP 3) [1, 1, 1, 1, 1, 1, 1, 1, 0, 1, 0, 0, 1, 1, 0, 0, 1, 1, 0]) (exP (fun (a : TE) (H : AH) => m_fieldfarelaw7_PoolWholetttttttthtbltthbttt K r0 (a 0) (a 6) (a 8) (a 9) (a 11) (a 50) (a 51) H) (m_fieldfarelaw7_PoolWholetttttttthtbltth_k K r0)) a H := congrArg (fun k : KE => codeP PP C8 (subC (bodyC PP 3) [1, 1, 1, 1, 1, 1, 1, 1, 0, 1, 0, 0, 1, 1, 0, 0, 1, 1, 0]) (exP k (m_fieldfarelaw7_PoolWholetttttttthtbltth_k K r0)) a H) (funext fun a => funext fun H => m_fieldfarelaw7_PoolWholetttttttthtbltthbttt_eq K r0 a H)
  have h2b : codeP PP C8 (subC (bodyC PP 3) [1, 1, 1, 1, 1, 1, 1, 1, 0, 1, 0, 0, 1, 1, 0, 0, 1, 1, 0]) (exP (fun (a : TE) (H : AH) => m_fieldfarelaw7_PoolWholetttttttthtbltthbttt K r0 (a 0) (a 6) (a 8) (a 9) (a 11) (a 50) (a 51) H) (m_fieldfarelaw7_PoolWholetttttttthtbltth_k K r0)) a H = codeP PP C8 (subC (bodyC PP 3) [1, 1, 1, 1, 1, 1, 1, 1, 0, 1, 0, 0, 1, 1, 0, 0, 1, 1, 0]) (m_fieldfarelaw7_PoolWholetttttttthtbltthbtt_k K r0) a H := by kernel_rfl
  have h3 : codeP PP C8 (subC (bodyC PP 3) [1, 1, 1, 1, 1, 1, 1, 1, 0, 1, 0, 0, 1, 1, 0, 0, 1, 1, 0]) (m_fieldfarelaw7_PoolWholetttttttthtbltthbtt_k K r0) a H = m_fieldfarelaw7_PoolWholetttttttthtbltthbtt K r0 (a 0) (a 6) (a 8) (a 9) (a 10) (a 11) (a 50) (a 51) H := by kernel_rfl
  ((h1.trans h2).trans h2b).trans h3
abbrev m_fieldfarelaw7_PoolWholetttttttthtbltthbt_k (K : AV → AH → Prop) (r0 : (AV × AV × AV × AV × AV × AV) → AH → Prop) : KP := exP (fun (a : TE) (H : AH) => m_fieldfarelaw7_PoolWholetttttttthtbltthbtt K r0 (a 0) (a 6) (a 8) (a 9) (a 10) (a 11) (a 50) (a 51) H) (m_fieldfarelaw7_PoolWholetttttttthtbltth_k K r0)
def m_fieldfarelaw7_PoolWholetttttttthtbltthbt (K : AV → AH → Prop) (r0 : (AV × AV × AV × AV × AV × AV) → AH → Prop) (x0 x6 x8 x9 x10 x50 x51 : AV) (H : AH) : Prop :=
  outP C8 H (w_indexAddr (.sl 1) H x9 x10) fun v1 H1 =>
  outP C8 H1 (w_load none H1 v1) fun v2 H2 =>
  outP C8 H2 (some (.enter 8 [x6, v2])) fun v3 H3 =>
  m_fieldfarelaw7_PoolWholetttttttthtbltthbtt K r0 x0 x6 x8 x9 x10 v3 x50 x51 H3
theorem m_fieldfarelaw7_PoolWholetttttttthtbltthbt_eq (K : AV → AH → Prop) (r0 : (AV × AV × AV × AV × AV × AV) → AH → Prop) (a : TE) (H : AH) : codeP PP C8 (subC (bodyC PP 3) [1, 1, 1, 1, 1, 1, 1, 1, 0, 1, 0, 0, 1, 1, 0, 0, 1]) (m_fieldfarelaw7_PoolWholetttttttthtbltth_k K r0) a H = m_fieldfarelaw7_PoolWholetttttttthtbltthbt K r0 (a 0) (a 6) (a 8) (a 9) (a 10) (a 50) (a 51) H :=
  have h1 : codeP PP C8 (subC (bodyC PP 3) [1, 1, 1, 1, 1, 1, 1, 1, 0, 1, 0, 0, 1, 1, 0, 0, 1]) (m_fieldfarelaw7_PoolWholetttttttthtbltth_k K r0) a H = codeP PP C8 (subC (bodyC PP 3) [1, 1, 1, 1, 1, 1, 1, 1, 0, 1, 0, 0, 1, 1, 0, 0, 1, 0]) (exP (codeP PP C8 (subC (bodyC PP 3) [1, 1, 1, 1, 1, 1, 1, 1, 0, 1, 0, 0, 1, 1, 0, 0, 1, 1]) (m_fieldfarelaw7_PoolWholetttttttthtbltth_k K r0)) (m_fieldfarelaw7_PoolWholetttttttthtbltth_k K r0)) a H := by kernel_rfl
  have h2 : codeP PP C8 (subC (bodyC PP 3) [1, 1, 1, 1, 1, 1, 1, 1, 0, 1, 0, 0, 1, 1, 0, 0, 1, 0]) (exP (codeP PP C8 (subC (bodyC PP 3) [1, 1, 1, 1, 1, 1, 1, 1, 0, 1, 0, 0, 1, 1, 0, 0, 1, 1]) (m_fieldfarelaw7_PoolWholetttttttthtbltth_k K r0)) (m_fieldfarelaw7_PoolWholetttttttthtbltth_k K r0)) a H = codeP PP C8 (subC (bodyC PP 3) [1, 1, 1, 1, 1, 1, 1, 1, 0, 1, 0, 0, 1, 1, 0, 0, 1, 0]) (exP (fun (a : TE) (H : AH) => m_fieldfarelaw7_PoolWholetttttttthtbltthbtt K r0 (a 0) (a 6) (a 8) (a 9) (a 10) (a 11) (a 50) (a 51) H) (m_fieldfarelaw7_PoolWholetttttttthtbltth_k K r0)) a H := congrArg (fun k : KE => codeP PP C8 (subC (bodyC PP 3) [1, 1, 1, 1, 1, 1, 1, 1, 0, 1, 0, 0, 1, 1, 0, 0, 1, 0]) (exP k (m_fieldfarelaw7_PoolWholetttttttthtbltth_k K r0)) a H) (funext fun a => funext fun H => m_fieldfarelaw7_PoolWholetttttttthtbltthbtt_eq K r0 a H)
  have h2b : codeP PP C8 (subC (bodyC PP 3) [1, 1, 1, 1, 1, 1, 1, 1, 0, 1, 0, 0, 1, 1, 0, 0, 1, 0]) (exP (fun (a : TE) (H : AH) => m_fieldfarelaw7_PoolWholetttttttthtbltthbtt K r0 (a 0) (a 6) (a 8) (a 9) (a 10) (a 11) (a 50) (a 51) H) (m_fieldfarelaw7_PoolWholetttttttthtbltth_k K r0)) a H = codeP PP C8 (subC (bodyC PP 3) [1, 1, 1, 1, 1, 1, 1, 1, 0, 1, 0, 0, 1, 1, 0, 0, 1, 0]) (m_fieldfarelaw7_PoolWholetttttttthtbltthbt_k K r0) a H := by kernel_rfl
  have h3 : codeP PP C8 (subC (bodyC PP 3) [1, 1, 1, 1, 1, 1, 1, 1, 0, 1, 0, 0, 1, 1, 0, 0, 1, 0]) (m_fieldfarelaw7_PoolWholetttttttthtbltthbt_k K r0) a H = m_fieldfarelaw7_PoolWholetttttttthtbltthbt K r0 (a 0) (a 6) (a 8) (a 9) (a 10) (a 50) (a 51) H := by kernel_rfl
  ((h1.trans h2).trans h2b).trans h3
abbrev m_fieldfarelaw7_PoolWholetttttttthtbltthb_k (K : AV → AH → Prop) (r0 : (AV × AV × AV × AV × AV × AV) → AH → Prop) : KP := exP (fun (a : TE) (H : AH) => m_fieldfarelaw7_PoolWholetttttttthtbltthbt K r0 (a 0) (a 6) (a 8) (a 9) (a 10) (a 50) (a 51) H) (m_fieldfarelaw7_PoolWholetttttttthtbltth_k K r0)
def m_fieldfarelaw7_PoolWholetttttttthtbltthb (K : AV → AH → Prop) (r0 : (AV × AV × AV × AV × AV × AV) → AH → Prop) (x0 x6 x8 x9 x50 x51 : AV) (H : AH) : Prop :=
  m_fieldfarelaw7_PoolWholetttttttthtbltthbt K r0 x0 x6 x8 x9 x51 x50 x51 H
theorem m_fieldfarelaw7_PoolWholetttttttthtbltthb_eq (K : AV → AH → Prop) (r0 : (AV × AV × AV × AV × AV × AV) → AH → Prop) (a : TE) (H : AH) : codeP PP C8 (subC (bodyC PP 3) [1, 1, 1, 1, 1, 1, 1, 1, 0, 1, 0, 0, 1, 1, 0, 0]) (m_fieldfarelaw7_PoolWholetttttttthtbltth_k K r0) a H = m_fieldfarelaw7_PoolWholetttttttthtbltthb K r0 (a 0) (a 6) (a 8) (a 9) (a 50) (a 51) H :=
  have h1 : codeP PP C8 (subC (bodyC PP 3) [1, 1, 1, 1, 1, 1, 1, 1, 0, 1, 0, 0, 1, 1, 0, 0]) (m_fieldfarelaw7_PoolWholetttttttthtbltth_k K r0) a H = codeP PP C8 (subC (bodyC PP 3) [1, 1, 1, 1, 1, 1, 1, 1, 0, 1, 0, 0, 1, 1, 0, 0, 0]) (exP (codeP PP C8 (subC (bodyC PP 3) [1, 1, 1, 1, 1, 1, 1, 1, 0, 1, 0, 0, 1, 1, 0, 0, 1]) (m_fieldfarelaw7_PoolWholetttttttthtbltth_k K r0)) (m_fieldfarelaw7_PoolWholetttttttthtbltth_k K r0)) a H := by kernel_rfl
  have h2 : codeP PP C8 (subC (bodyC PP 3) [1, 1, 1, 1, 1, 1, 1, 1, 0, 1, 0, 0, 1, 1, 0, 0, 0]) (exP (codeP PP C8 (subC (bodyC PP 3) [1, 1, 1, 1, 1, 1, 1, 1, 0, 1, 0, 0, 1, 1, 0, 0, 1]) (m_fieldfarelaw7_PoolWholetttttttthtbltth_k K r0)) (m_fieldfarelaw7_PoolWholetttttttthtbltth_k K r0)) a H = codeP PP C8 (subC (bodyC PP 3) [1, 1, 1, 1, 1, 1, 1, 1, 0, 1, 0, 0, 1, 1, 0, 0, 0]) (exP (fun (a : TE) (H : AH) => m_fieldfarelaw7_PoolWholetttttttthtbltthbt K r0 (a 0) (a 6) (a 8) (a 9) (a 10) (a 50) (a 51) H) (m_fieldfarelaw7_PoolWholetttttttthtbltth_k K r0)) a H := congrArg (fun k : KE => codeP PP C8 (subC (bodyC PP 3) [1, 1, 1, 1, 1, 1, 1, 1, 0, 1, 0, 0, 1, 1, 0, 0, 0]) (exP k (m_fieldfarelaw7_PoolWholetttttttthtbltth_k K r0)) a H) (funext fun a => funext fun H => m_fieldfarelaw7_PoolWholetttttttthtbltthbt_eq K r0 a H)
  have h2b : codeP PP C8 (subC (bodyC PP 3) [1, 1, 1, 1, 1, 1, 1, 1, 0, 1, 0, 0, 1, 1, 0, 0, 0]) (exP (fun (a : TE) (H : AH) => m_fieldfarelaw7_PoolWholetttttttthtbltthbt K r0 (a 0) (a 6) (a 8) (a 9) (a 10) (a 50) (a 51) H) (m_fieldfarelaw7_PoolWholetttttttthtbltth_k K r0)) a H = codeP PP C8 (subC (bodyC PP 3) [1, 1, 1, 1, 1, 1, 1, 1, 0, 1, 0, 0, 1, 1, 0, 0, 0]) (m_fieldfarelaw7_PoolWholetttttttthtbltthb_k K r0) a H := by kernel_rfl
  have h3 : codeP PP C8 (subC (bodyC PP 3) [1, 1, 1, 1, 1, 1, 1, 1, 0, 1, 0, 0, 1, 1, 0, 0, 0]) (m_fieldfarelaw7_PoolWholetttttttthtbltthb_k K r0) a H = m_fieldfarelaw7_PoolWholetttttttthtbltthb K r0 (a 0) (a 6) (a 8) (a 9) (a 50) (a 51) H := by kernel_rfl
  ((h1.trans h2).trans h2b).trans h3
theorem m_fieldfarelaw7_PoolWholetttttttthtbltth_eq (K : AV → AH → Prop) (r0 : (AV × AV × AV × AV × AV × AV) → AH → Prop) (a : TE) (H : AH) : codeP PP C8 (subC (bodyC PP 3) [1, 1, 1, 1, 1, 1, 1, 1, 0, 1, 0, 0, 1, 1, 0]) (m_fieldfarelaw7_PoolWholetttttttthtbltt_k K r0) a H = m_fieldfarelaw7_PoolWholetttttttthtbltthb K r0 (a 0) (a 6) (a 8) (a 9) (a 50) (a 51) H :=
  have h1 : codeP PP C8 (subC (bodyC PP 3) [1, 1, 1, 1, 1, 1, 1, 1, 0, 1, 0, 0, 1, 1, 0]) (m_fieldfarelaw7_PoolWholetttttttthtbltt_k K r0) a H = codeP PP C8 (subC (bodyC PP 3) [1, 1, 1, 1, 1, 1, 1, 1, 0, 1, 0, 0, 1, 1, 0, 0]) (m_fieldfarelaw7_PoolWholetttttttthtbltth_k K r0) a H := by kernel_rfl
  h1.trans (m_fieldfarelaw7_PoolWholetttttttthtbltthb_eq K r0 a H)
theorem m_fieldfarelaw7_PoolWholetttttttthtbltt_eq (K : AV → AH → Prop) (r0 : (AV × AV × AV × AV × AV × AV) → AH → Prop) (a : TE) (H : AH) : codeP PP C8 (subC (bodyC PP 3) [1, 1, 1, 1, 1, 1, 1, 1, 0, 1, 0, 0, 1, 1]) (m_fieldfarelaw7_PoolWholetttttttthtb_k K r0) a H = m_fieldfarelaw7_PoolWholetttttttthtbltthb K r0 (a 0) (a 6) (a 8) (a 9) (a 50) (a 51) H :=
  have h1 : codeP PP C8 (subC (bodyC PP 3) [1, 1, 1, 1, 1, 1, 1, 1, 0, 1, 0, 0, 1, 1]) (m_fieldfarelaw7_PoolWholetttttttthtb_k K r0) a H = codeP PP C8 (subC (bodyC PP 3) [1, 1, 1, 1, 1, 1, 1, 1, 0, 1, 0, 0, 1, 1, 0]) (m_fieldfarelaw7_PoolWholetttttttthtbltt_k K r0) a H := by kernel_rfl
  h1.trans (m_fieldfarelaw7_PoolWholetttttttthtbltth_eq K r0 a H)
abbrev m_fieldfarelaw7_PoolWholetttttttthtblt_k (K : AV → AH → Prop) (r0 : (AV × AV × AV × AV × AV × AV) → AH → Prop) : KP := exP (fun (a : TE) (H : AH) => m_fieldfarelaw7_PoolWholetttttttthtbltthb K r0 (a 0) (a 6) (a 8) (a 9) (a 50) (a 51) H) (m_fieldfarelaw7_PoolWholetttttttthtb_k K r0)
def m_fieldfarelaw7_PoolWholetttttttthtblt (K : AV → AH → Prop) (r0 : (AV × AV × AV × AV × AV × AV) → AH → Prop) (x0 x6 x8 x9 x50 x51 x52 : AV) (H : AH) : Prop :=
  condP x52
  (m_fieldfarelaw7_PoolWholetttttttthtbltthb K r0 x0 x6 x8 x9 x50 x51 H)
  (outP C8 H (w_len PP 30 H x8) fun v1 H1 =>
  outP C8 H1 (some (.enter 9 [x6])) fun v2 H2 =>
  outP C8 H2 (w_int .add H2 v1 v2) fun v3 H3 =>
  outP C8 H3 (w_int .eql H3 v3 x0) fun v4 H4 =>
  K v4 H4)
theorem m_fieldfarelaw7_PoolWholetttttttthtblt_eq (K : AV → AH → Prop) (r0 : (AV × AV × AV × AV × AV × AV) → AH → Prop) (a : TE) (H : AH) : codeP PP C8 (subC (bodyC PP 3) [1, 1, 1, 1, 1, 1, 1, 1, 0, 1, 0, 0, 1]) (m_fieldfarelaw7_PoolWholetttttttthtb_k K r0) a H = m_fieldfarelaw7_PoolWholetttttttthtblt K r0 (a 0) (a 6) (a 8) (a 9) (a 50) (a 51) (a 52) H :=
  have h1 : codeP PP C8 (subC (bodyC PP 3) [1, 1, 1, 1, 1, 1, 1, 1, 0, 1, 0, 0, 1]) (m_fieldfarelaw7_PoolWholetttttttthtb_k K r0) a H = codeP PP C8 (subC (bodyC PP 3) [1, 1, 1, 1, 1, 1, 1, 1, 0, 1, 0, 0, 1, 0]) (exP (codeP PP C8 (subC (bodyC PP 3) [1, 1, 1, 1, 1, 1, 1, 1, 0, 1, 0, 0, 1, 1]) (m_fieldfarelaw7_PoolWholetttttttthtb_k K r0)) (m_fieldfarelaw7_PoolWholetttttttthtb_k K r0)) a H := by kernel_rfl
  have h2 : codeP PP C8 (subC (bodyC PP 3) [1, 1, 1, 1, 1, 1, 1, 1, 0, 1, 0, 0, 1, 0]) (exP (codeP PP C8 (subC (bodyC PP 3) [1, 1, 1, 1, 1, 1, 1, 1, 0, 1, 0, 0, 1, 1]) (m_fieldfarelaw7_PoolWholetttttttthtb_k K r0)) (m_fieldfarelaw7_PoolWholetttttttthtb_k K r0)) a H = codeP PP C8 (subC (bodyC PP 3) [1, 1, 1, 1, 1, 1, 1, 1, 0, 1, 0, 0, 1, 0]) (exP (fun (a : TE) (H : AH) => m_fieldfarelaw7_PoolWholetttttttthtbltthb K r0 (a 0) (a 6) (a 8) (a 9) (a 50) (a 51) H) (m_fieldfarelaw7_PoolWholetttttttthtb_k K r0)) a H := congrArg (fun k : KE => codeP PP C8 (subC (bodyC PP 3) [1, 1, 1, 1, 1, 1, 1, 1, 0, 1, 0, 0, 1, 0]) (exP k (m_fieldfarelaw7_PoolWholetttttttthtb_k K r0)) a H) (funext fun a => funext fun H => m_fieldfarelaw7_PoolWholetttttttthtbltt_eq K r0 a H)
  have h2b : codeP PP C8 (subC (bodyC PP 3) [1, 1, 1, 1, 1, 1, 1, 1, 0, 1, 0, 0, 1, 0]) (exP (fun (a : TE) (H : AH) => m_fieldfarelaw7_PoolWholetttttttthtbltthb K r0 (a 0) (a 6) (a 8) (a 9) (a 50) (a 51) H) (m_fieldfarelaw7_PoolWholetttttttthtb_k K r0)) a H = codeP PP C8 (subC (bodyC PP 3) [1, 1, 1, 1, 1, 1, 1, 1, 0, 1, 0, 0, 1, 0]) (m_fieldfarelaw7_PoolWholetttttttthtblt_k K r0) a H := by kernel_rfl
  have h3 : codeP PP C8 (subC (bodyC PP 3) [1, 1, 1, 1, 1, 1, 1, 1, 0, 1, 0, 0, 1, 0]) (m_fieldfarelaw7_PoolWholetttttttthtblt_k K r0) a H = m_fieldfarelaw7_PoolWholetttttttthtblt K r0 (a 0) (a 6) (a 8) (a 9) (a 50) (a 51) (a 52) H := by kernel_rfl
  ((h1.trans h2).trans h2b).trans h3
abbrev m_fieldfarelaw7_PoolWholetttttttthtbl_k (K : AV → AH → Prop) (r0 : (AV × AV × AV × AV × AV × AV) → AH → Prop) : KP := exP (fun (a : TE) (H : AH) => m_fieldfarelaw7_PoolWholetttttttthtblt K r0 (a 0) (a 6) (a 8) (a 9) (a 50) (a 51) (a 52) H) (m_fieldfarelaw7_PoolWholetttttttthtb_k K r0)
def m_fieldfarelaw7_PoolWholetttttttthtbl (K : AV → AH → Prop) (r0 : (AV × AV × AV × AV × AV × AV) → AH → Prop) (x0 x6 x8 x9 x50 x51 : AV) (H : AH) : Prop :=
  outP C8 H (w_int .lss H x51 x50) fun v1 H1 =>
  m_fieldfarelaw7_PoolWholetttttttthtblt K r0 x0 x6 x8 x9 x50 x51 v1 H1
theorem m_fieldfarelaw7_PoolWholetttttttthtbl_eq (K : AV → AH → Prop) (r0 : (AV × AV × AV × AV × AV × AV) → AH → Prop) (a : TE) (H : AH) : codeP PP C8 (subC (bodyC PP 3) [1, 1, 1, 1, 1, 1, 1, 1, 0, 1, 0, 0]) (m_fieldfarelaw7_PoolWholetttttttthtb_k K r0) a H = m_fieldfarelaw7_PoolWholetttttttthtbl K r0 (a 0) (a 6) (a 8) (a 9) (a 50) (a 51) H :=
  have h1 : codeP PP C8 (subC (bodyC PP 3) [1, 1, 1, 1, 1, 1, 1, 1, 0, 1, 0, 0]) (m_fieldfarelaw7_PoolWholetttttttthtb_k K r0) a H = codeP PP C8 (subC (bodyC PP 3) [1, 1, 1, 1, 1, 1, 1, 1, 0, 1, 0, 0, 0]) (exP (codeP PP C8 (subC (bodyC PP 3) [1, 1, 1, 1, 1, 1, 1, 1, 0, 1, 0, 0, 1]) (m_fieldfarelaw7_PoolWholetttttttthtb_k K r0)) (m_fieldfarelaw7_PoolWholetttttttthtb_k K r0)) a H := by kernel_rfl
  have h2 : codeP PP C8 (subC (bodyC PP 3) [1, 1, 1, 1, 1, 1, 1, 1, 0, 1, 0, 0, 0]) (exP (codeP PP C8 (subC (bodyC PP 3) [1, 1, 1, 1, 1, 1, 1, 1, 0, 1, 0, 0, 1]) (m_fieldfarelaw7_PoolWholetttttttthtb_k K r0)) (m_fieldfarelaw7_PoolWholetttttttthtb_k K r0)) a H = codeP PP C8 (subC (bodyC PP 3) [1, 1, 1, 1, 1, 1, 1, 1, 0, 1, 0, 0, 0]) (exP (fun (a : TE) (H : AH) => m_fieldfarelaw7_PoolWholetttttttthtblt K r0 (a 0) (a 6) (a 8) (a 9) (a 50) (a 51) (a 52) H) (m_fieldfarelaw7_PoolWholetttttttthtb_k K r0)) a H := congrArg (fun k : KE => codeP PP C8 (subC (bodyC PP 3) [1, 1, 1, 1, 1, 1, 1, 1, 0, 1, 0, 0, 0]) (exP k (m_fieldfarelaw7_PoolWholetttttttthtb_k K r0)) a H) (funext fun a => funext fun H => m_fieldfarelaw7_PoolWholetttttttthtblt_eq K r0 a H)
  have h2b : codeP PP C8 (subC (bodyC PP 3) [1, 1, 1, 1, 1, 1, 1, 1, 0, 1, 0, 0, 0]) (exP (fun (a : TE) (H : AH) => m_fieldfarelaw7_PoolWholetttttttthtblt K r0 (a 0) (a 6) (a 8) (a 9) (a 50) (a 51) (a 52) H) (m_fieldfarelaw7_PoolWholetttttttthtb_k K r0)) a H = codeP PP C8 (subC (bodyC PP 3) [1, 1, 1, 1, 1, 1, 1, 1, 0, 1, 0, 0, 0]) (m_fieldfarelaw7_PoolWholetttttttthtbl_k K r0) a H := by kernel_rfl
  have h3 : codeP PP C8 (subC (bodyC PP 3) [1, 1, 1, 1, 1, 1, 1, 1, 0, 1, 0, 0, 0]) (m_fieldfarelaw7_PoolWholetttttttthtbl_k K r0) a H = m_fieldfarelaw7_PoolWholetttttttthtbl K r0 (a 0) (a 6) (a 8) (a 9) (a 50) (a 51) H := by kernel_rfl
  ((h1.trans h2).trans h2b).trans h3
def m_fieldfarelaw7_PoolWholetttttttthtb (K : AV → AH → Prop) (x0 x6 x8 x9 x50 x51 : AV) (H : AH) : Prop :=
  loopP (fun (r0 : (AV × AV × AV × AV × AV × AV) → AH → Prop) (s : (AV × AV × AV × AV × AV × AV)) (H : AH) => m_fieldfarelaw7_PoolWholetttttttthtbl K r0 s.1 s.2.1 s.2.2.1 s.2.2.2.1 s.2.2.2.2.1 s.2.2.2.2.2 H) (x0, x6, x8, x9, x50, x51) H
theorem m_fieldfarelaw7_PoolWholetttttttthtb_eq (K : AV → AH → Prop) (a : TE) (H : AH) : codeP PP C8 (subC (bodyC PP 3) [1, 1, 1, 1, 1, 1, 1, 1, 0, 1, 0]) (m_fieldfarelaw7_PoolWholettttttttht_k K) a H = m_fieldfarelaw7_PoolWholetttttttthtb K (a 0) (a 6) (a 8) (a 9) (a 50) (a 51) H :=
  have h1 : codeP PP C8 (subC (bodyC PP 3) [1, 1, 1, 1, 1, 1, 1, 1, 0, 1, 0]) (m_fieldfarelaw7_PoolWholettttttttht_k K) a H = loopP (fun (rec : KE) => codeP PP C8 (subC (bodyC PP 3) [1, 1, 1, 1, 1, 1, 1, 1, 0, 1, 0, 0]) (exP rec (m_fieldfarelaw7_PoolWholettttttttht_k K))) a H := by kernel_rfl
  have h2 := loopP_iso (F := fun (rec : KE) => codeP PP C8 (subC (bodyC PP 3) [1, 1, 1, 1, 1, 1, 1, 1, 0, 1, 0, 0]) (exP rec (m_fieldfarelaw7_PoolWholettttttttht_k K))) (S := (AV × AV × AV × AV × AV × AV)) (fun a => (a 0, a 6, a 8, a 9, a 50, a 51)) (fun (r0 : (AV × AV × AV × AV × AV × AV) → AH → Prop) (s : (AV × AV × AV × AV × AV × AV)) (H : AH) => m_fieldfarelaw7_PoolWholetttttttthtbl K r0 s.1 s.2.1 s.2.2.1 s.2.2.2.1 s.2.2.2.2.1 s.2.2.2.2.2 H) (fun (r0 : (AV × AV × AV × AV × AV × AV) → AH → Prop) (a : TE) (H : AH) => (show codeP PP C8 (subC (bodyC PP 3) [1, 1, 1, 1, 1, 1, 1, 1, 0, 1, 0, 0]) (exP (fun (a : TE) (H : AH) => r0 (a 0, a 6, a 8, a 9, a 50, a 51) H) (m_fieldfarelaw7_PoolWholettttttttht_k K)) a H = codeP PP C8 (subC (bodyC PP 3) [1, 1, 1, 1, 1, 1, 1, 1, 0, 1, 0, 0]) (m_fieldfarelaw7_PoolWholetttttttthtb_k K r0) a H from by kernel_rfl).trans (m_fieldfarelaw7_PoolWholetttttttthtbl_eq K r0 a H)) a H
  h1.trans h2
theorem m_fieldfarelaw7_PoolWholettttttttht_eq (K : AV → AH → Prop) (a : TE) (H : AH) : codeP PP C8 (subC (bodyC PP 3) [1, 1, 1, 1, 1, 1, 1, 1, 0, 1]) (m_fieldfarelaw7_PoolWholetttttttt_k K) a H = m_fieldfarelaw7_PoolWholetttttttthtb K (a 0) (a 6) (a 8) (a 9) (a 50) (a 51) H :=
  have h1 : codeP PP C8 (subC (bodyC PP 3) [1, 1, 1, 1, 1, 1, 1, 1, 0, 1]) (m_fieldfarelaw7_PoolWholetttttttt_k K) a H = codeP PP C8 (subC (bodyC PP 3) [1, 1, 1, 1, 1, 1, 1, 1, 0, 1, 0]) (m_fieldfarelaw7_PoolWholettttttttht_k K) a H := by kernel_rfl
  h1.trans (m_fieldfarelaw7_PoolWholetttttttthtb_eq K a H)
abbrev m_fieldfarelaw7_PoolWholetttttttth_k (K : AV → AH → Prop) : KP := exP (fun (a : TE) (H : AH) => m_fieldfarelaw7_PoolWholetttttttthtb K (a 0) (a 6) (a 8) (a 9) (a 50) (a 51) H) (m_fieldfarelaw7_PoolWholetttttttt_k K)
def m_fieldfarelaw7_PoolWholetttttttth (K : AV → AH → Prop) (x0 x6 x8 x9 : AV) (H : AH) : Prop :=
  outP C8 H (w_len PP 31 H x9) fun v1 H1 =>
  m_fieldfarelaw7_PoolWholetttttttthtb K x0 x6 x8 x9 v1 (.int .i64 0) H1
theorem m_fieldfarelaw7_PoolWholetttttttth_eq (K : AV → AH → Prop) (a : TE) (H : AH) : codeP PP C8 (subC (bodyC PP 3) [1, 1, 1, 1, 1, 1, 1, 1, 0]) (m_fieldfarelaw7_PoolWholetttttttt_k K) a H = m_fieldfarelaw7_PoolWholetttttttth K (a 0) (a 6) (a 8) (a 9) H :=
  have h1 : codeP PP C8 (subC (bodyC PP 3) [1, 1, 1, 1, 1, 1, 1, 1, 0]) (m_fieldfarelaw7_PoolWholetttttttt_k K) a H = codeP PP C8 (subC (bodyC PP 3) [1, 1, 1, 1, 1, 1, 1, 1, 0, 0]) (exP (codeP PP C8 (subC (bodyC PP 3) [1, 1, 1, 1, 1, 1, 1, 1, 0, 1]) (m_fieldfarelaw7_PoolWholetttttttt_k K)) (m_fieldfarelaw7_PoolWholetttttttt_k K)) a H := by kernel_rfl
  have h2 : codeP PP C8 (subC (bodyC PP 3) [1, 1, 1, 1, 1, 1, 1, 1, 0, 0]) (exP (codeP PP C8 (subC (bodyC PP 3) [1, 1, 1, 1, 1, 1, 1, 1, 0, 1]) (m_fieldfarelaw7_PoolWholetttttttt_k K)) (m_fieldfarelaw7_PoolWholetttttttt_k K)) a H = codeP PP C8 (subC (bodyC PP 3) [1, 1, 1, 1, 1, 1, 1, 1, 0, 0]) (exP (fun (a : TE) (H : AH) => m_fieldfarelaw7_PoolWholetttttttthtb K (a 0) (a 6) (a 8) (a 9) (a 50) (a 51) H) (m_fieldfarelaw7_PoolWholetttttttt_k K)) a H := congrArg (fun k : KE => codeP PP C8 (subC (bodyC PP 3) [1, 1, 1, 1, 1, 1, 1, 1, 0, 0]) (exP k (m_fieldfarelaw7_PoolWholetttttttt_k K)) a H) (funext fun a => funext fun H => m_fieldfarelaw7_PoolWholettttttttht_eq K a H)
  have h2b : codeP PP C8 (subC (bodyC PP 3) [1, 1, 1, 1, 1, 1, 1, 1, 0, 0]) (exP (fun (a : TE) (H : AH) => m_fieldfarelaw7_PoolWholetttttttthtb K (a 0) (a 6) (a 8) (a 9) (a 50) (a 51) H) (m_fieldfarelaw7_PoolWholetttttttt_k K)) a H = codeP PP C8 (subC (bodyC PP 3) [1, 1, 1, 1, 1, 1, 1, 1, 0, 0]) (m_fieldfarelaw7_PoolWholetttttttth_k K) a H := by kernel_rfl
  have h3 : codeP PP C8 (subC (bodyC PP 3) [1, 1, 1, 1, 1, 1, 1, 1, 0, 0]) (m_fieldfarelaw7_PoolWholetttttttth_k K) a H = m_fieldfarelaw7_PoolWholetttttttth K (a 0) (a 6) (a 8) (a 9) H := by kernel_rfl
  ((h1.trans h2).trans h2b).trans h3
theorem m_fieldfarelaw7_PoolWholetttttttt_eq (K : AV → AH → Prop) (a : TE) (H : AH) : codeP PP C8 (subC (bodyC PP 3) [1, 1, 1, 1, 1, 1, 1, 1]) (m_fieldfarelaw7_PoolWhole_K K) a H = m_fieldfarelaw7_PoolWholetttttttth K (a 0) (a 6) (a 8) (a 9) H :=
  have h1 : codeP PP C8 (subC (bodyC PP 3) [1, 1, 1, 1, 1, 1, 1, 1]) (m_fieldfarelaw7_PoolWhole_K K) a H = codeP PP C8 (subC (bodyC PP 3) [1, 1, 1, 1, 1, 1, 1, 1, 0]) (m_fieldfarelaw7_PoolWholetttttttt_k K) a H := by kernel_rfl
  h1.trans (m_fieldfarelaw7_PoolWholetttttttth_eq K a H)
abbrev m_fieldfarelaw7_PoolWholettttttt_k (K : AV → AH → Prop) : KP := exP (fun (a : TE) (H : AH) => m_fieldfarelaw7_PoolWholetttttttth K (a 0) (a 6) (a 8) (a 9) H) (m_fieldfarelaw7_PoolWhole_K K)
def m_fieldfarelaw7_PoolWholettttttt (K : AV → AH → Prop) (x0 x6 x8 : AV) (H : AH) : Prop :=
  outP C8 H (some (.enter 7 [x6])) fun v1 H1 =>
  m_fieldfarelaw7_PoolWholetttttttth K x0 x6 x8 v1 H1
theorem m_fieldfarelaw7_PoolWholettttttt_eq (K : AV → AH → Prop) (a : TE) (H : AH) : codeP PP C8 (subC (bodyC PP 3) [1, 1, 1, 1, 1, 1, 1]) (m_fieldfarelaw7_PoolWhole_K K) a H = m_fieldfarelaw7_PoolWholettttttt K (a 0) (a 6) (a 8) H :=
  have h1 : codeP PP C8 (subC (bodyC PP 3) [1, 1, 1, 1, 1, 1, 1]) (m_fieldfarelaw7_PoolWhole_K K) a H = codeP PP C8 (subC (bodyC PP 3) [1, 1, 1, 1, 1, 1, 1, 0]) (exP (codeP PP C8 (subC (bodyC PP 3) [1, 1, 1, 1, 1, 1, 1, 1]) (m_fieldfarelaw7_PoolWhole_K K)) (m_fieldfarelaw7_PoolWhole_K K)) a H := by kernel_rfl
  have h2 : codeP PP C8 (subC (bodyC PP 3) [1, 1, 1, 1, 1, 1, 1, 0]) (exP (codeP PP C8 (subC (bodyC PP 3) [1, 1, 1, 1, 1, 1, 1, 1]) (m_fieldfarelaw7_PoolWhole_K K)) (m_fieldfarelaw7_PoolWhole_K K)) a H = codeP PP C8 (subC (bodyC PP 3) [1, 1, 1, 1, 1, 1, 1, 0]) (exP (fun (a : TE) (H : AH) => m_fieldfarelaw7_PoolWholetttttttth K (a 0) (a 6) (a 8) (a 9) H) (m_fieldfarelaw7_PoolWhole_K K)) a H := congrArg (fun k : KE => codeP PP C8 (subC (bodyC PP 3) [1, 1, 1, 1, 1, 1, 1, 0]) (exP k (m_fieldfarelaw7_PoolWhole_K K)) a H) (funext fun a => funext fun H => m_fieldfarelaw7_PoolWholetttttttt_eq K a H)
  have h2b : codeP PP C8 (subC (bodyC PP 3) [1, 1, 1, 1, 1, 1, 1, 0]) (exP (fun (a : TE) (H : AH) => m_fieldfarelaw7_PoolWholetttttttth K (a 0) (a 6) (a 8) (a 9) H) (m_fieldfarelaw7_PoolWhole_K K)) a H = codeP PP C8 (subC (bodyC PP 3) [1, 1, 1, 1, 1, 1, 1, 0]) (m_fieldfarelaw7_PoolWholettttttt_k K) a H := by kernel_rfl
  have h3 : codeP PP C8 (subC (bodyC PP 3) [1, 1, 1, 1, 1, 1, 1, 0]) (m_fieldfarelaw7_PoolWholettttttt_k K) a H = m_fieldfarelaw7_PoolWholettttttt K (a 0) (a 6) (a 8) H := by kernel_rfl
  ((h1.trans h2).trans h2b).trans h3
abbrev m_fieldfarelaw7_PoolWholetttttt_k (K : AV → AH → Prop) : KP := exP (fun (a : TE) (H : AH) => m_fieldfarelaw7_PoolWholettttttt K (a 0) (a 6) (a 8) H) (m_fieldfarelaw7_PoolWhole_K K)
def m_fieldfarelaw7_PoolWholetttttt (K : AV → AH → Prop) (x0 x6 : AV) (H : AH) : Prop :=
  outP C8 H (w_makeMap H none) fun v1 H1 =>
  m_fieldfarelaw7_PoolWholettttttt K x0 x6 v1 H1
theorem m_fieldfarelaw7_PoolWholetttttt_eq (K : AV → AH → Prop) (a : TE) (H : AH) : codeP PP C8 (subC (bodyC PP 3) [1, 1, 1, 1, 1, 1]) (m_fieldfarelaw7_PoolWhole_K K) a H = m_fieldfarelaw7_PoolWholetttttt K (a 0) (a 6) H :=
  have h1 : codeP PP C8 (subC (bodyC PP 3) [1, 1, 1, 1, 1, 1]) (m_fieldfarelaw7_PoolWhole_K K) a H = codeP PP C8 (subC (bodyC PP 3) [1, 1, 1, 1, 1, 1, 0]) (exP (codeP PP C8 (subC (bodyC PP 3) [1, 1, 1, 1, 1, 1, 1]) (m_fieldfarelaw7_PoolWhole_K K)) (m_fieldfarelaw7_PoolWhole_K K)) a H := by kernel_rfl
  have h2 : codeP PP C8 (subC (bodyC PP 3) [1, 1, 1, 1, 1, 1, 0]) (exP (codeP PP C8 (subC (bodyC PP 3) [1, 1, 1, 1, 1, 1, 1]) (m_fieldfarelaw7_PoolWhole_K K)) (m_fieldfarelaw7_PoolWhole_K K)) a H = codeP PP C8 (subC (bodyC PP 3) [1, 1, 1, 1, 1, 1, 0]) (exP (fun (a : TE) (H : AH) => m_fieldfarelaw7_PoolWholettttttt K (a 0) (a 6) (a 8) H) (m_fieldfarelaw7_PoolWhole_K K)) a H := congrArg (fun k : KE => codeP PP C8 (subC (bodyC PP 3) [1, 1, 1, 1, 1, 1, 0]) (exP k (m_fieldfarelaw7_PoolWhole_K K)) a H) (funext fun a => funext fun H => m_fieldfarelaw7_PoolWholettttttt_eq K a H)
  have h2b : codeP PP C8 (subC (bodyC PP 3) [1, 1, 1, 1, 1, 1, 0]) (exP (fun (a : TE) (H : AH) => m_fieldfarelaw7_PoolWholettttttt K (a 0) (a 6) (a 8) H) (m_fieldfarelaw7_PoolWhole_K K)) a H = codeP PP C8 (subC (bodyC PP 3) [1, 1, 1, 1, 1, 1, 0]) (m_fieldfarelaw7_PoolWholetttttt_k K) a H := by kernel_rfl
  have h3 : codeP PP C8 (subC (bodyC PP 3) [1, 1, 1, 1, 1, 1, 0]) (m_fieldfarelaw7_PoolWholetttttt_k K) a H = m_fieldfarelaw7_PoolWholetttttt K (a 0) (a 6) H := by kernel_rfl
  ((h1.trans h2).trans h2b).trans h3
abbrev m_fieldfarelaw7_PoolWholettttt_k (K : AV → AH → Prop) : KP := exP (fun (a : TE) (H : AH) => m_fieldfarelaw7_PoolWholetttttt K (a 0) (a 6) H) (m_fieldfarelaw7_PoolWhole_K K)
abbrev m_fieldfarelaw7_PoolWholetttttht_k (K : AV → AH → Prop) : KP := blockP 0 (m_fieldfarelaw7_PoolWholettttt_k K)
abbrev m_fieldfarelaw7_PoolWholettttthtb_k (K : AV → AH → Prop) (r0 : (AV × AV × AV × AV) → AH → Prop) : KP := exP (fun (a : TE) (H : AH) => r0 (a 0, a 1, a 6, a 7) H) (m_fieldfarelaw7_PoolWholetttttht_k K)
def m_fieldfarelaw7_PoolWholettttthtbl (K : AV → AH → Prop) (r0 : (AV × AV × AV × AV) → AH → Prop) (x0 x1 x6 x7 : AV) (H : AH) : Prop :=
  outP C8 H (w_len PP 22 H x1) fun v1 H1 =>
  outP C8 H1 (w_int .lss H1 x7 v1) fun v2 H2 =>
  guardP (boolIs true v2) H2 (outP C8 H2 (some (.val x7 H2))) fun v3 H3 =>
  guardP (boolIs true v2) H3 (outP C8 H3 (w_int .lss H3 v3 (.int .i64 30))) fun v4 H4 =>
  outP C8 H4 (w_pick H4 v2 v4 (.bool false)) fun v5 H5 =>
  condP v5
  (outP C8 H5 (w_indexAddr (.sl 2) H5 x1 x7) fun v6 H6 =>
  outP C8 H6 (w_fieldAddr 0 H6 v6) fun v7 H7 =>
  outP C8 H7 (w_load none H7 v7) fun v8 H8 =>
  outP C8 H8 (w_int .rem H8 v8 (.int .i64 5)) fun v9 H9 =>
  outP C8 H9 (w_indexAddr (.sl 2) H9 x1 x7) fun v10 H10 =>
  outP C8 H10 (w_fieldAddr 1 H10 v10) fun v11 H11 =>
  outP C8 H11 (w_load none H11 v11) fun v12 H12 =>
  outP C8 H12 (w_int .rem H12 v12 (.int .i64 40)) fun v13 H13 =>
  outP C8 H13 (some (.enter 6 [x6, v9, v13])) fun _v14 H14 =>
  outP C8 H14 (w_int .add H14 x7 (.int .i64 1)) fun v15 H15 =>
  r0 (x0, x1, x6, v15) H15)
  (m_fieldfarelaw7_PoolWholetttttt K x0 x6 H5)
theorem m_fieldfarelaw7_PoolWholettttthtbl_eq (K : AV → AH → Prop) (r0 : (AV × AV × AV × AV) → AH → Prop) (a : TE) (H : AH) : codeP PP C8 (subC (bodyC PP 3) [1, 1, 1, 1, 1, 0, 1, 0, 0]) (m_fieldfarelaw7_PoolWholettttthtb_k K r0) a H = m_fieldfarelaw7_PoolWholettttthtbl K r0 (a 0) (a 1) (a 6) (a 7) H :=
  by kernel_rfl
def m_fieldfarelaw7_PoolWholettttthtb (K : AV → AH → Prop) (x0 x1 x6 x7 : AV) (H : AH) : Prop :=
  loopP (fun (r0 : (AV × AV × AV × AV) → AH → Prop) (s : (AV × AV × AV × AV)) (H : AH) => m_fieldfarelaw7_PoolWholettttthtbl K r0 s.1 s.2.1 s.2.2.1 s.2.2.2 H) (x0, x1, x6, x7) H
theorem m_fieldfarelaw7_PoolWholettttthtb_eq (K : AV → AH → Prop) (a : TE) (H : AH) : codeP PP C8 (subC (bodyC PP 3) [1, 1, 1, 1, 1, 0, 1, 0]) (m_fieldfarelaw7_PoolWholetttttht_k K) a H = m_fieldfarelaw7_PoolWholettttthtb K (a 0) (a 1) (a 6) (a 7) H :=
  have h1 : codeP PP C8 (subC (bodyC PP 3) [1, 1, 1, 1, 1, 0, 1, 0]) (m_fieldfarelaw7_PoolWholetttttht_k K) a H = loopP (fun (rec : KE) => codeP PP C8 (subC (bodyC PP 3) [1, 1, 1, 1, 1, 0, 1, 0, 0]) (exP rec (m_fieldfarelaw7_PoolWholetttttht_k K))) a H := by kernel_rfl
  have h2 := loopP_iso (F := fun (rec : KE) => codeP PP C8 (subC (bodyC PP 3) [1, 1, 1, 1, 1, 0, 1, 0, 0]) (exP rec (m_fieldfarelaw7_PoolWholetttttht_k K))) (S := (AV × AV × AV × AV)) (fun a => (a 0, a 1, a 6, a 7)) (fun (r0 : (AV × AV × AV × AV) → AH → Prop) (s : (AV × AV × AV × AV)) (H : AH) => m_fieldfarelaw7_PoolWholettttthtbl K r0 s.1 s.2.1 s.2.2.1 s.2.2.2 H) (fun (r0 : (AV × AV × AV × AV) → AH → Prop) (a : TE) (H : AH) => (show codeP PP C8 (subC (bodyC PP 3) [1, 1, 1, 1, 1, 0, 1, 0, 0]) (exP (fun (a : TE) (H : AH) => r0 (a 0, a 1, a 6, a 7) H) (m_fieldfarelaw7_PoolWholetttttht_k K)) a H = codeP PP C8 (subC (bodyC PP 3) [1, 1, 1, 1, 1, 0, 1, 0, 0]) (m_fieldfarelaw7_PoolWholettttthtb_k K r0) a H from by kernel_rfl).trans (m_fieldfarelaw7_PoolWholettttthtbl_eq K r0 a H)) a H
  h1.trans h2
theorem m_fieldfarelaw7_PoolWholetttttht_eq (K : AV → AH → Prop) (a : TE) (H : AH) : codeP PP C8 (subC (bodyC PP 3) [1, 1, 1, 1, 1, 0, 1]) (m_fieldfarelaw7_PoolWholettttt_k K) a H = m_fieldfarelaw7_PoolWholettttthtb K (a 0) (a 1) (a 6) (a 7) H :=
  have h1 : codeP PP C8 (subC (bodyC PP 3) [1, 1, 1, 1, 1, 0, 1]) (m_fieldfarelaw7_PoolWholettttt_k K) a H = codeP PP C8 (subC (bodyC PP 3) [1, 1, 1, 1, 1, 0, 1, 0]) (m_fieldfarelaw7_PoolWholetttttht_k K) a H := by kernel_rfl
  h1.trans (m_fieldfarelaw7_PoolWholettttthtb_eq K a H)
abbrev m_fieldfarelaw7_PoolWholettttth_k (K : AV → AH → Prop) : KP := exP (fun (a : TE) (H : AH) => m_fieldfarelaw7_PoolWholettttthtb K (a 0) (a 1) (a 6) (a 7) H) (m_fieldfarelaw7_PoolWholettttt_k K)
def m_fieldfarelaw7_PoolWholettttth (K : AV → AH → Prop) (x0 x1 x6 : AV) (H : AH) : Prop :=
  m_fieldfarelaw7_PoolWholettttthtb K x0 x1 x6 (.int .i64 0) H
theorem m_fieldfarelaw7_PoolWholettttth_eq (K : AV → AH → Prop) (a : TE) (H : AH) : codeP PP C8 (subC (bodyC PP 3) [1, 1, 1, 1, 1, 0]) (m_fieldfarelaw7_PoolWholettttt_k K) a H = m_fieldfarelaw7_PoolWholettttth K (a 0) (a 1) (a 6) H :=
  have h1 : codeP PP C8 (subC (bodyC PP 3) [1, 1, 1, 1, 1, 0]) (m_fieldfarelaw7_PoolWholettttt_k K) a H = codeP PP C8 (subC (bodyC PP 3) [1, 1, 1, 1, 1, 0, 0]) (exP (codeP PP C8 (subC (bodyC PP 3) [1, 1, 1, 1, 1, 0, 1]) (m_fieldfarelaw7_PoolWholettttt_k K)) (m_fieldfarelaw7_PoolWholettttt_k K)) a H := by kernel_rfl
  have h2 : codeP PP C8 (subC (bodyC PP 3) [1, 1, 1, 1, 1, 0, 0]) (exP (codeP PP C8 (subC (bodyC PP 3) [1, 1, 1, 1, 1, 0, 1]) (m_fieldfarelaw7_PoolWholettttt_k K)) (m_fieldfarelaw7_PoolWholettttt_k K)) a H = codeP PP C8 (subC (bodyC PP 3) [1, 1, 1, 1, 1, 0, 0]) (exP (fun (a : TE) (H : AH) => m_fieldfarelaw7_PoolWholettttthtb K (a 0) (a 1) (a 6) (a 7) H) (m_fieldfarelaw7_PoolWholettttt_k K)) a H := congrArg (fun k : KE => codeP PP C8 (subC (bodyC PP 3) [1, 1, 1, 1, 1, 0, 0]) (exP k (m_fieldfarelaw7_PoolWholettttt_k K)) a H) (funext fun a => funext fun H => m_fieldfarelaw7_PoolWholetttttht_eq K a H)
  have h2b : codeP PP C8 (subC (bodyC PP 3) [1, 1, 1, 1, 1, 0, 0]) (exP (fun (a : TE) (H : AH) => m_fieldfarelaw7_PoolWholettttthtb K (a 0) (a 1) (a 6) (a 7) H) (m_fieldfarelaw7_PoolWholettttt_k K)) a H = codeP PP C8 (subC (bodyC PP 3) [1, 1, 1, 1, 1, 0, 0]) (m_fieldfarelaw7_PoolWholettttth_k K) a H := by kernel_rfl
  have h3 : codeP PP C8 (subC (bodyC PP 3) [1, 1, 1, 1, 1, 0, 0]) (m_fieldfarelaw7_PoolWholettttth_k K) a H = m_fieldfarelaw7_PoolWholettttth K (a 0) (a 1) (a 6) H := by kernel_rfl
  ((h1.trans h2).trans h2b).trans h3
theorem m_fieldfarelaw7_PoolWholettttt_eq (K : AV → AH → Prop) (a : TE) (H : AH) : codeP PP C8 (subC (bodyC PP 3) [1, 1, 1, 1, 1]) (m_fieldfarelaw7_PoolWhole_K K) a H = m_fieldfarelaw7_PoolWholettttth K (a 0) (a 1) (a 6) H :=
  have h1 : codeP PP C8 (subC (bodyC PP 3) [1, 1, 1, 1, 1]) (m_fieldfarelaw7_PoolWhole_K K) a H = codeP PP C8 (subC (bodyC PP 3) [1, 1, 1, 1, 1, 0]) (exP (codeP PP C8 (subC (bodyC PP 3) [1, 1, 1, 1, 1, 1]) (m_fieldfarelaw7_PoolWhole_K K)) (m_fieldfarelaw7_PoolWhole_K K)) a H := by kernel_rfl
  have h2 : codeP PP C8 (subC (bodyC PP 3) [1, 1, 1, 1, 1, 0]) (exP (codeP PP C8 (subC (bodyC PP 3) [1, 1, 1, 1, 1, 1]) (m_fieldfarelaw7_PoolWhole_K K)) (m_fieldfarelaw7_PoolWhole_K K)) a H = codeP PP C8 (subC (bodyC PP 3) [1, 1, 1, 1, 1, 0]) (exP (fun (a : TE) (H : AH) => m_fieldfarelaw7_PoolWholetttttt K (a 0) (a 6) H) (m_fieldfarelaw7_PoolWhole_K K)) a H := congrArg (fun k : KE => codeP PP C8 (subC (bodyC PP 3) [1, 1, 1, 1, 1, 0]) (exP k (m_fieldfarelaw7_PoolWhole_K K)) a H) (funext fun a => funext fun H => m_fieldfarelaw7_PoolWholetttttt_eq K a H)
  have h2b : codeP PP C8 (subC (bodyC PP 3) [1, 1, 1, 1, 1, 0]) (exP (fun (a : TE) (H : AH) => m_fieldfarelaw7_PoolWholetttttt K (a 0) (a 6) H) (m_fieldfarelaw7_PoolWhole_K K)) a H = codeP PP C8 (subC (bodyC PP 3) [1, 1, 1, 1, 1, 0]) (m_fieldfarelaw7_PoolWholettttt_k K) a H := by kernel_rfl
  ((h1.trans h2).trans h2b).trans (m_fieldfarelaw7_PoolWholettttth_eq K a H)
abbrev m_fieldfarelaw7_PoolWholetttt_k (K : AV → AH → Prop) : KP := exP (fun (a : TE) (H : AH) => m_fieldfarelaw7_PoolWholettttth K (a 0) (a 1) (a 6) H) (m_fieldfarelaw7_PoolWhole_K K)
def m_fieldfarelaw7_PoolWholetttt (K : AV → AH → Prop) (x0 x1 : AV) (H : AH) : Prop :=
  outP C8 H (some (.enter 5 [x0])) fun v1 H1 =>
  m_fieldfarelaw7_PoolWholettttth K x0 x1 v1 H1
theorem m_fieldfarelaw7_PoolWholetttt_eq (K : AV → AH → Prop) (a : TE) (H : AH) : codeP PP C8 (subC (bodyC PP 3) [1, 1, 1, 1]) (m_fieldfarelaw7_PoolWhole_K K) a H = m_fieldfarelaw7_PoolWholetttt K (a 0) (a 1) H :=
  have h1 : codeP PP C8 (subC (bodyC PP 3) [1, 1, 1, 1]) (m_fieldfarelaw7_PoolWhole_K K) a H = codeP PP C8 (subC (bodyC PP 3) [1, 1, 1, 1, 0]) (exP (codeP PP C8 (subC (bodyC PP 3) [1, 1, 1, 1, 1]) (m_fieldfarelaw7_PoolWhole_K K)) (m_fieldfarelaw7_PoolWhole_K K)) a H := by kernel_rfl
  have h2 : codeP PP C8 (subC (bodyC PP 3) [1, 1, 1, 1, 0]) (exP (codeP PP C8 (subC (bodyC PP 3) [1, 1, 1, 1, 1]) (m_fieldfarelaw7_PoolWhole_K K)) (m_fieldfarelaw7_PoolWhole_K K)) a H = codeP PP C8 (subC (bodyC PP 3) [1, 1, 1, 1, 0]) (exP (fun (a : TE) (H : AH) => m_fieldfarelaw7_PoolWholettttth K (a 0) (a 1) (a 6) H) (m_fieldfarelaw7_PoolWhole_K K)) a H := congrArg (fun k : KE => codeP PP C8 (subC (bodyC PP 3) [1, 1, 1, 1, 0]) (exP k (m_fieldfarelaw7_PoolWhole_K K)) a H) (funext fun a => funext fun H => m_fieldfarelaw7_PoolWholettttt_eq K a H)
  have h2b : codeP PP C8 (subC (bodyC PP 3) [1, 1, 1, 1, 0]) (exP (fun (a : TE) (H : AH) => m_fieldfarelaw7_PoolWholettttth K (a 0) (a 1) (a 6) H) (m_fieldfarelaw7_PoolWhole_K K)) a H = codeP PP C8 (subC (bodyC PP 3) [1, 1, 1, 1, 0]) (m_fieldfarelaw7_PoolWholetttt_k K) a H := by kernel_rfl
  have h3 : codeP PP C8 (subC (bodyC PP 3) [1, 1, 1, 1, 0]) (m_fieldfarelaw7_PoolWholetttt_k K) a H = m_fieldfarelaw7_PoolWholetttt K (a 0) (a 1) H := by kernel_rfl
  ((h1.trans h2).trans h2b).trans h3
abbrev m_fieldfarelaw7_PoolWholettt_k (K : AV → AH → Prop) : KP := exP (fun (a : TE) (H : AH) => m_fieldfarelaw7_PoolWholetttt K (a 0) (a 1) H) (m_fieldfarelaw7_PoolWhole_K K)
def m_fieldfarelaw7_PoolWholettt (K : AV → AH → Prop) (x0 x1 : AV) (H : AH) : Prop :=
  outP C8 H (w_int .rem H x0 (.int .i64 100)) fun v1 H1 =>
  outP C8 H1 (w_int .add H1 v1 (.int .i64 100)) fun v2 H2 =>
  outP C8 H2 (w_int .rem H2 v2 (.int .i64 100)) fun v3 H3 =>
  m_fieldfarelaw7_PoolWholetttt K v3 x1 H3
theorem m_fieldfarelaw7_PoolWholettt_eq (K : AV → AH → Prop) (a : TE) (H : AH) : codeP PP C8 (subC (bodyC PP 3) [1, 1, 1]) (m_fieldfarelaw7_PoolWhole_K K) a H = m_fieldfarelaw7_PoolWholettt K (a 0) (a 1) H :=
  have h1 : codeP PP C8 (subC (bodyC PP 3) [1, 1, 1]) (m_fieldfarelaw7_PoolWhole_K K) a H = codeP PP C8 (subC (bodyC PP 3) [1, 1, 1, 0]) (exP (codeP PP C8 (subC (bodyC PP 3) [1, 1, 1, 1]) (m_fieldfarelaw7_PoolWhole_K K)) (m_fieldfarelaw7_PoolWhole_K K)) a H := by kernel_rfl
  have h2 : codeP PP C8 (subC (bodyC PP 3) [1, 1, 1, 0]) (exP (codeP PP C8 (subC (bodyC PP 3) [1, 1, 1, 1]) (m_fieldfarelaw7_PoolWhole_K K)) (m_fieldfarelaw7_PoolWhole_K K)) a H = codeP PP C8 (subC (bodyC PP 3) [1, 1, 1, 0]) (exP (fun (a : TE) (H : AH) => m_fieldfarelaw7_PoolWholetttt K (a 0) (a 1) H) (m_fieldfarelaw7_PoolWhole_K K)) a H := congrArg (fun k : KE => codeP PP C8 (subC (bodyC PP 3) [1, 1, 1, 0]) (exP k (m_fieldfarelaw7_PoolWhole_K K)) a H) (funext fun a => funext fun H => m_fieldfarelaw7_PoolWholetttt_eq K a H)
  have h2b : codeP PP C8 (subC (bodyC PP 3) [1, 1, 1, 0]) (exP (fun (a : TE) (H : AH) => m_fieldfarelaw7_PoolWholetttt K (a 0) (a 1) H) (m_fieldfarelaw7_PoolWhole_K K)) a H = codeP PP C8 (subC (bodyC PP 3) [1, 1, 1, 0]) (m_fieldfarelaw7_PoolWholettt_k K) a H := by kernel_rfl
  have h3 : codeP PP C8 (subC (bodyC PP 3) [1, 1, 1, 0]) (m_fieldfarelaw7_PoolWholettt_k K) a H = m_fieldfarelaw7_PoolWholettt K (a 0) (a 1) H := by kernel_rfl
  ((h1.trans h2).trans h2b).trans h3
abbrev m_fieldfarelaw7_PoolWholett_k (K : AV → AH → Prop) : KP := exP (fun (a : TE) (H : AH) => m_fieldfarelaw7_PoolWholettt K (a 0) (a 1) H) (m_fieldfarelaw7_PoolWhole_K K)
def m_fieldfarelaw7_PoolWholett (K : AV → AH → Prop) (x0 x1 x5 : AV) (H : AH) : Prop :=
  outP C8 H (w_un .not H x5) fun v1 H1 =>
  condP v1
  (K (.bool false) H1)
  (m_fieldfarelaw7_PoolWholettt K x0 x1 H1)
theorem m_fieldfarelaw7_PoolWholett_eq (K : AV → AH → Prop) (a : TE) (H : AH) : codeP PP C8 (subC (bodyC PP 3) [1, 1]) (m_fieldfarelaw7_PoolWhole_K K) a H = m_fieldfarelaw7_PoolWholett K (a 0) (a 1) (a 5) H :=
  have h1 : codeP PP C8 (subC (bodyC PP 3) [1, 1]) (m_fieldfarelaw7_PoolWhole_K K) a H = codeP PP C8 (subC (bodyC PP 3) [1, 1, 0]) (exP (codeP PP C8 (subC (bodyC PP 3) [1, 1, 1]) (m_fieldfarelaw7_PoolWhole_K K)) (m_fieldfarelaw7_PoolWhole_K K)) a H := by kernel_rfl
  have h2 : codeP PP C8 (subC (bodyC PP 3) [1, 1, 0]) (exP (codeP PP C8 (subC (bodyC PP 3) [1, 1, 1]) (m_fieldfarelaw7_PoolWhole_K K)) (m_fieldfarelaw7_PoolWhole_K K)) a H = codeP PP C8 (subC (bodyC PP 3) [1, 1, 0]) (exP (fun (a : TE) (H : AH) => m_fieldfarelaw7_PoolWholettt K (a 0) (a 1) H) (m_fieldfarelaw7_PoolWhole_K K)) a H := congrArg (fun k : KE => codeP PP C8 (subC (bodyC PP 3) [1, 1, 0]) (exP k (m_fieldfarelaw7_PoolWhole_K K)) a H) (funext fun a => funext fun H => m_fieldfarelaw7_PoolWholettt_eq K a H)
  have h2b : codeP PP C8 (subC (bodyC PP 3) [1, 1, 0]) (exP (fun (a : TE) (H : AH) => m_fieldfarelaw7_PoolWholettt K (a 0) (a 1) H) (m_fieldfarelaw7_PoolWhole_K K)) a H = codeP PP C8 (subC (bodyC PP 3) [1, 1, 0]) (m_fieldfarelaw7_PoolWholett_k K) a H := by kernel_rfl
  have h3 : codeP PP C8 (subC (bodyC PP 3) [1, 1, 0]) (m_fieldfarelaw7_PoolWholett_k K) a H = m_fieldfarelaw7_PoolWholett K (a 0) (a 1) (a 5) H := by kernel_rfl
  ((h1.trans h2).trans h2b).trans h3
abbrev m_fieldfarelaw7_PoolWholet_k (K : AV → AH → Prop) : KP := exP (fun (a : TE) (H : AH) => m_fieldfarelaw7_PoolWholett K (a 0) (a 1) (a 5) H) (m_fieldfarelaw7_PoolWhole_K K)
def m_fieldfarelaw7_PoolWholet (K : AV → AH → Prop) (x0 x1 : AV) (H : AH) : Prop :=
  outP C8 H (some (.enter 4 [])) fun v1 H1 =>
  m_fieldfarelaw7_PoolWholett K x0 x1 v1 H1
theorem m_fieldfarelaw7_PoolWholet_eq (K : AV → AH → Prop) (a : TE) (H : AH) : codeP PP C8 (subC (bodyC PP 3) [1]) (m_fieldfarelaw7_PoolWhole_K K) a H = m_fieldfarelaw7_PoolWholet K (a 0) (a 1) H :=
  have h1 : codeP PP C8 (subC (bodyC PP 3) [1]) (m_fieldfarelaw7_PoolWhole_K K) a H = codeP PP C8 (subC (bodyC PP 3) [1, 0]) (exP (codeP PP C8 (subC (bodyC PP 3) [1, 1]) (m_fieldfarelaw7_PoolWhole_K K)) (m_fieldfarelaw7_PoolWhole_K K)) a H := by kernel_rfl
  have h2 : codeP PP C8 (subC (bodyC PP 3) [1, 0]) (exP (codeP PP C8 (subC (bodyC PP 3) [1, 1]) (m_fieldfarelaw7_PoolWhole_K K)) (m_fieldfarelaw7_PoolWhole_K K)) a H = codeP PP C8 (subC (bodyC PP 3) [1, 0]) (exP (fun (a : TE) (H : AH) => m_fieldfarelaw7_PoolWholett K (a 0) (a 1) (a 5) H) (m_fieldfarelaw7_PoolWhole_K K)) a H := congrArg (fun k : KE => codeP PP C8 (subC (bodyC PP 3) [1, 0]) (exP k (m_fieldfarelaw7_PoolWhole_K K)) a H) (funext fun a => funext fun H => m_fieldfarelaw7_PoolWholett_eq K a H)
  have h2b : codeP PP C8 (subC (bodyC PP 3) [1, 0]) (exP (fun (a : TE) (H : AH) => m_fieldfarelaw7_PoolWholett K (a 0) (a 1) (a 5) H) (m_fieldfarelaw7_PoolWhole_K K)) a H = codeP PP C8 (subC (bodyC PP 3) [1, 0]) (m_fieldfarelaw7_PoolWholet_k K) a H := by kernel_rfl
  have h3 : codeP PP C8 (subC (bodyC PP 3) [1, 0]) (m_fieldfarelaw7_PoolWholet_k K) a H = m_fieldfarelaw7_PoolWholet K (a 0) (a 1) H := by kernel_rfl
  ((h1.trans h2).trans h2b).trans h3
abbrev m_fieldfarelaw7_PoolWhole_k (K : AV → AH → Prop) : KP := exP (fun (a : TE) (H : AH) => m_fieldfarelaw7_PoolWholet K (a 0) (a 1) H) (m_fieldfarelaw7_PoolWhole_K K)
def m_fieldfarelaw7_PoolWhole (K : AV → AH → Prop) (x0 x1 : AV) (H : AH) : Prop :=
  m_fieldfarelaw7_PoolWholet K x0 x1 H
theorem m_fieldfarelaw7_PoolWhole_eq (K : AV → AH → Prop) (a : TE) (H : AH) : codeP PP C8 (subC (bodyC PP 3) []) (m_fieldfarelaw7_PoolWhole_K K) a H = m_fieldfarelaw7_PoolWhole K (a 0) (a 1) H :=
  have h1 : codeP PP C8 (subC (bodyC PP 3) []) (m_fieldfarelaw7_PoolWhole_K K) a H = codeP PP C8 (subC (bodyC PP 3) [0]) (exP (codeP PP C8 (subC (bodyC PP 3) [1]) (m_fieldfarelaw7_PoolWhole_K K)) (m_fieldfarelaw7_PoolWhole_K K)) a H := by kernel_rfl
  have h2 : codeP PP C8 (subC (bodyC PP 3) [0]) (exP (codeP PP C8 (subC (bodyC PP 3) [1]) (m_fieldfarelaw7_PoolWhole_K K)) (m_fieldfarelaw7_PoolWhole_K K)) a H = codeP PP C8 (subC (bodyC PP 3) [0]) (exP (fun (a : TE) (H : AH) => m_fieldfarelaw7_PoolWholet K (a 0) (a 1) H) (m_fieldfarelaw7_PoolWhole_K K)) a H := congrArg (fun k : KE => codeP PP C8 (subC (bodyC PP 3) [0]) (exP k (m_fieldfarelaw7_PoolWhole_K K)) a H) (funext fun a => funext fun H => m_fieldfarelaw7_PoolWholet_eq K a H)
  have h2b : codeP PP C8 (subC (bodyC PP 3) [0]) (exP (fun (a : TE) (H : AH) => m_fieldfarelaw7_PoolWholet K (a 0) (a 1) H) (m_fieldfarelaw7_PoolWhole_K K)) a H = codeP PP C8 (subC (bodyC PP 3) [0]) (m_fieldfarelaw7_PoolWhole_k K) a H := by kernel_rfl
  have h3 : codeP PP C8 (subC (bodyC PP 3) [0]) (m_fieldfarelaw7_PoolWhole_k K) a H = m_fieldfarelaw7_PoolWhole K (a 0) (a 1) H := by kernel_rfl
  ((h1.trans h2).trans h2b).trans h3
theorem m_fieldfarelaw7_PoolWhole_ok (x0 x1 : AV) (H : AH) (K : AV → AH → Prop) (h : m_fieldfarelaw7_PoolWhole K x0 x1 H) : C8.call 3 [x0, x1] H K :=
  have h1 : funP PP C8 3 [x0, x1] H K = codeP PP C8 (subC (bodyC PP 3) []) (m_fieldfarelaw7_PoolWhole_K K) (argE [x0, x1]) H := by kernel_rfl
  have h2 : m_fieldfarelaw7_PoolWhole K (argE [x0, x1] 0) (argE [x0, x1] 1) H = m_fieldfarelaw7_PoolWhole K x0 x1 H := by kernel_rfl
  funP_ok (P := PP) (by kernel_rfl) (by kernel_rfl) ((h1.trans ((m_fieldfarelaw7_PoolWhole_eq K (argE [x0, x1]) H).trans h2)).mpr h)

/-! 7: (*fieldfare/pool.Pool).Owners -/
abbrev m_pool_Pool_Owners_K (K : AV → AH → Prop) : KP := finP PP (resC PP 7) K
def m_pool_Pool_Owners (K : AV → AH → Prop) (x0 : AV) (H : AH) : Prop :=
  outP C8 H (w_box 24 H x0 none) fun v1 H1 =>
  outP C8 H1 (w_load none H1 v1) fun v2 H2 =>
  outP C8 H2 (w_eq PP .eql 24 false true H2 v2 (.ptr none)) fun v3 H3 =>
  condP v3
  (K (.slice none 0 0 true) H3)
  (outP C8 H3 (w_load none H3 v1) fun v4 H4 =>
  outP C8 H4 (w_nil H4 v4) fun v5 H5 =>
  outP C8 H5 (w_fieldAddr 1 H5 v5) fun v6 H6 =>
  outP C8 H6 (w_load none H6 v6) fun v7 H7 =>
  outP C8 H7 (some (.enter 26 [v7])) fun v8 H8 =>
  outP C8 H8 (some (.enter 24 [v8])) fun v9 H9 =>
  outP C8 H9 (some (.val (.fn (.func 28) [] [v1]) H9)) fun v10 H10 =>
  outP C8 H10 (some (.enter 27 [v9, v10])) fun v11 H11 =>
  K v11 H11)
theorem m_pool_Pool_Owners_eq (K : AV → AH → Prop) (a : TE) (H : AH) : codeP PP C8 (subC (bodyC PP 7) []) (m_pool_Pool_Owners_K K) a H = m_pool_Pool_Owners K (a 0) H :=
  by kernel_rfl
theorem m_pool_Pool_Owners_ok (x0 : AV) (H : AH) (K : AV → AH → Prop) (h : m_pool_Pool_Owners K x0 H) : C8.call 7 [x0] H K :=
  have h1 : funP PP C8 7 [x0] H K = codeP PP C8 (subC (bodyC PP 7) []) (m_pool_Pool_Owners_K K) (argE [x0]) H := by kernel_rfl
  have h2 : m_pool_Pool_Owners K (argE [x0] 0) H = m_pool_Pool_Owners K x0 H := by kernel_rfl
  funP_ok (P := PP) (by kernel_rfl) (by kernel_rfl) ((h1.trans ((m_pool_Pool_Owners_eq K (argE [x0]) H).trans h2)).mpr h)

/-! 26: maps.Keys[map[int][]int,int,[]int] -/
abbrev m_maps_Keys_map_int_int_int_int_K (K : AV → AH → Prop) : KP := finP PP (resC PP 26) K
def m_maps_Keys_map_int_int_int_int (K : AV → AH → Prop) (x0 : AV) (H : AH) : Prop :=
  outP C8 H (w_box 62 H x0 none) fun v1 H1 =>
  outP C8 H1 (some (.val (.fn (.func 54) [] [v1]) H1)) fun v2 H2 =>
  K v2 H2
theorem m_maps_Keys_map_int_int_int_int_eq (K : AV → AH → Prop) (a : TE) (H : AH) : codeP PP C8 (subC (bodyC PP 26) []) (m_maps_Keys_map_int_int_int_int_K K) a H = m_maps_Keys_map_int_int_int_int K (a 0) H :=
  by kernel_rfl
theorem m_maps_Keys_map_int_int_int_int_ok (x0 : AV) (H : AH) (K : AV → AH → Prop) (h : m_maps_Keys_map_int_int_int_int K x0 H) : C8.call 26 [x0] H K :=
  have h1 : funP PP C8 26 [x0] H K = codeP PP C8 (subC (bodyC PP 26) []) (m_maps_Keys_map_int_int_int_int_K K) (argE [x0]) H := by kernel_rfl
  have h2 : m_maps_Keys_map_int_int_int_int K (argE [x0] 0) H = m_maps_Keys_map_int_int_int_int K x0 H := by kernel_rfl
  funP_ok (P := PP) (by kernel_rfl) (by kernel_rfl) ((h1.trans ((m_maps_Keys_map_int_int_int_int_eq K (argE [x0]) H).trans h2)).mpr h)

end
end Go.Ab
