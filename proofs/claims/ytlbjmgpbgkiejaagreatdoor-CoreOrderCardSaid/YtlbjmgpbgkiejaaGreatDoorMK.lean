/- What functions do, said as what the evaluator does. Printed by a program. -/
import Derived.Test.YtlbjmgpbgkiejaaGreatDoorPrimK
import Derived.Test.YtlbjmgpbgkiejaaGreatDoorMir2
namespace Go.Ab
noncomputable section
open Go.Proofs
set_option maxRecDepth 100000



/-! 83: fieldfare/store.New -/
abbrev bQ83 (p : List Nat) (k : KP) : KE := codeP PP CQ (subC (bodyC PP 83) p) k
abbrev kQ83 (K : KT) : KP := finP PP (resC PP 83) K
def m_store_New (K : KT) (H : AH) : Prop :=
  outP CQ H (w_makeMap H none) fun v1 H1 =>
  outP CQ H1 (w_build PP 166 H1 [(0, v1)]) fun v2 H2 =>
  outP CQ H2 (w_box 166 H2 v2 none) fun v3 H3 =>
  K v3 H3
theorem eQ83_ (K : KT) (a : TE) (H : AH) : bQ83 [] (kQ83 K) a H = m_store_New K H :=
  by kernel_rfl
theorem m_store_New_ok (H : AH) (K : KT) (h : m_store_New K H) : CQ.call 83 [] H K :=
  have h1 : funP PP CQ 83 [] H K = bQ83 [] (kQ83 K) (argE []) H := by kernel_rfl
  have h2 : m_store_New K H = m_store_New K H := by kernel_rfl
  funP_ok (P := PP) (by kernel_rfl) (by kernel_rfl) ((h1.trans ((eQ83_ K (argE []) H).trans h2)).mpr h)

/-! 85: fieldfare/store.copied -/
abbrev bQ85 (p : List Nat) (k : KP) : KE := codeP PP CQ (subC (bodyC PP 85) p) k
abbrev kQ85 (K : KT) : KP := finP PP (resC PP 85) K
def m_store_copied (K : KT) (x0 : AV) (H : AH) : Prop :=
  outP CQ H (w_box 29 H x0 none) fun v1 H1 =>
  outP CQ H1 (w_alloc 29 [(.int .i64 0), (.slice none 0 0 true), (.str []), (.int .i64 0), (.bool false)] H1 none) fun v2 H2 =>
  outP CQ H2 (w_fieldAddr 1 H2 v1) fun v3 H3 =>
  outP CQ H3 (w_load none H3 v3) fun v4 H4 =>
  outP CQ H4 (some (.enter 149 [v4])) fun v5 H5 =>
  outP CQ H5 (w_fieldAddr 1 H5 v1) fun v6 H6 =>
  outP CQ H6 (w_store 1 H6 v6 v5) fun _v7 H7 =>
  outP CQ H7 (w_load (some 5) H7 v1) fun v8 H8 =>
  outP CQ H8 (w_store 5 H8 v2 v8) fun _v9 H9 =>
  endP (resR (partF (some (some 5))) H9 v2 (some [])) K H9
theorem eQ85_ (K : KT) (a : TE) (H : AH) : bQ85 [] (kQ85 K) a H = m_store_copied K (a 0) H :=
  by kernel_rfl
theorem m_store_copied_ok (x0 : AV) (H : AH) (K : KT) (h : m_store_copied K x0 H) : CQ.call 85 [x0] H K :=
  have h1 : funP PP CQ 85 [x0] H K = bQ85 [] (kQ85 K) (argE [x0]) H := by kernel_rfl
  have h2 : m_store_copied K (argE [x0] 0) H = m_store_copied K x0 H := by kernel_rfl
  funP_ok (P := PP) (by kernel_rfl) (by kernel_rfl) ((h1.trans ((eQ85_ K (argE [x0]) H).trans h2)).mpr h)

/-! 33: (*fieldfare/store.Store).Put -/
abbrev bQ33 (p : List Nat) (k : KP) : KE := codeP PP CQ (subC (bodyC PP 33) p) k
abbrev kQ33 (K : KT) : KP := finP PP (resC PP 33) K
def m_store_Store_Put (K : KT) (x0 x1 x2 x3 x4 : AV) (H : AH) : Prop :=
  outP CQ H (w_eq PP .eql 84 false true H x0 (.ptr none)) fun v1 H1 =>
  condP v1
  (outP CQ H1 (some (.enter 84 [(.int .i64 9)])) fun v2 H2 =>
  K v2 H2)
  (outP CQ H1 (w_int .lss H1 x1 (.int .i64 1)) fun v3 H3 =>
  guardP (boolIs false v3) H3 (outP CQ H3 (some (.val x1 H3))) fun v4 H4 =>
  guardP (boolIs false v3) H4 (outP CQ H4 (w_int .gtr H4 v4 (.int .i64 1000))) fun v5 H5 =>
  outP CQ H5 (w_pick H5 v3 (.bool true) v5) fun v6 H6 =>
  condP v6
  (outP CQ H6 (some (.enter 84 [(.int .i64 2)])) fun v7 H7 =>
  K v7 H7)
  (outP CQ H6 (w_len PP 9 H6 x3) fun v8 H8 =>
  outP CQ H8 (w_int .gtr H8 v8 (.int .i64 40)) fun v9 H9 =>
  condP v9
  (outP CQ H9 (some (.enter 84 [(.int .i64 11)])) fun v10 H10 =>
  K v10 H10)
  (outP CQ H9 (w_nil H9 x0) fun v11 H11 =>
  outP CQ H11 (w_fieldAddr 0 H11 v11) fun v12 H12 =>
  outP CQ H12 (w_load none H12 v12) fun v13 H13 =>
  outP CQ H13 (w_lookup PP 3 29 false H13 v13 x1) fun v14 H14 =>
  outP CQ H14 (w_field none 3 H14 v14) fun v15 H15 =>
  outP CQ H15 (w_int .leq H15 x4 v15) fun v16 H16 =>
  condP v16
  (outP CQ H16 (some (.enter 84 [(.int .i64 1)])) fun v17 H17 =>
  K v17 H17)
  (outP CQ H16 (w_nil H16 x0) fun v18 H18 =>
  outP CQ H18 (w_fieldAddr 0 H18 v18) fun v19 H19 =>
  outP CQ H19 (w_load none H19 v19) fun v20 H20 =>
  outP CQ H20 (w_build PP 29 H20 [(0, x1), (1, x2), (2, x3), (3, x4)]) fun v21 H21 =>
  outP CQ H21 (some (.enter 85 [v21])) fun v22 H22 =>
  ckP (reC true (w_load none H22 v19) v20) <|
  outP CQ H22 (w_mapUpdate PP 3 29 H22 v20 x1 v22) fun _v23 H23 =>
  K .nilIface H23))))
theorem eQ33_ (K : KT) (a : TE) (H : AH) : bQ33 [] (kQ33 K) a H = m_store_Store_Put K (a 0) (a 1) (a 2) (a 3) (a 4) H :=
  by kernel_rfl
theorem m_store_Store_Put_ok (x0 x1 x2 x3 x4 : AV) (H : AH) (K : KT) (h : m_store_Store_Put K x0 x1 x2 x3 x4 H) : CQ.call 33 [x0, x1, x2, x3, x4] H K :=
  have h1 : funP PP CQ 33 [x0, x1, x2, x3, x4] H K = bQ33 [] (kQ33 K) (argE [x0, x1, x2, x3, x4]) H := by kernel_rfl
  have h2 : m_store_Store_Put K (argE [x0, x1, x2, x3, x4] 0) (argE [x0, x1, x2, x3, x4] 1) (argE [x0, x1, x2, x3, x4] 2) (argE [x0, x1, x2, x3, x4] 3) (argE [x0, x1, x2, x3, x4] 4) H = m_store_Store_Put K x0 x1 x2 x3 x4 H := by kernel_rfl
  funP_ok (P := PP) (by kernel_rfl) (by kernel_rfl) ((h1.trans ((eQ33_ K (argE [x0, x1, x2, x3, x4]) H).trans h2)).mpr h)

/-! 46: (*fieldfare/store.Store).Get -/
abbrev bQ46 (p : List Nat) (k : KP) : KE := codeP PP CQ (subC (bodyC PP 46) p) k
abbrev kQ46 (K : KT) : KP := finP PP (resC PP 46) K
def m_store_Store_Get (K : KT) (x0 x1 : AV) (H : AH) : Prop :=
  outP CQ H (w_alloc 29 [(.int .i64 0), (.slice none 0 0 true), (.str []), (.int .i64 0), (.bool false)] H none) fun v1 H1 =>
  outP CQ H1 (w_eq PP .eql 84 false true H1 x0 (.ptr none)) fun v2 H2 =>
  condP v2
  (outP CQ H2 (w_build PP 29 H2 []) fun v3 H3 =>
  outP CQ H3 (w_store 5 H3 v1 v3) fun _v4 H4 =>
  endP (resR (partF (some (some 5))) H4 v1 (resT (.bool false) (some []))) K H4)
  (outP CQ H2 (w_nil H2 x0) fun v5 H5 =>
  outP CQ H5 (w_fieldAddr 0 H5 v5) fun v6 H6 =>
  outP CQ H6 (w_load none H6 v6) fun v7 H7 =>
  outP CQ H7 (w_lookup PP 3 29 true H7 v7 x1) fun v8 H8 =>
  outP CQ H8 (w_extract 0 H8 v8) fun v9 H9 =>
  outP CQ H9 (w_extract 1 H9 v8) fun v10 H10 =>
  outP CQ H10 (w_alloc 29 [(.int .i64 0), (.slice none 0 0 true), (.str []), (.int .i64 0), (.bool false)] H10 none) fun v11 H11 =>
  outP CQ H11 (w_store 5 H11 v11 v9) fun _v12 H12 =>
  outP CQ H12 (w_un .not H12 v10) fun v13 H13 =>
  guardP (boolIs false v13) H13 (outP CQ H13 (w_fieldAddr 4 H13 v11)) fun v14 H14 =>
  guardP (boolIs false v13) H14 (outP CQ H14 (w_load none H14 v14)) fun v15 H15 =>
  outP CQ H15 (w_pick H15 v13 (.bool true) v15) fun v16 H16 =>
  condP v16
  (outP CQ H16 (w_build PP 29 H16 []) fun v17 H17 =>
  outP CQ H17 (w_store 5 H17 v1 v17) fun _v18 H18 =>
  endP (resR (partF (some (some 5))) H18 v1 (resT (.bool false) (some []))) K H18)
  (outP CQ H16 (w_load (some 5) H16 v11) fun v19 H19 =>
  outP CQ H19 (some (.enter 85 [v19])) fun v20 H20 =>
  outP CQ H20 (w_store 5 H20 v1 v20) fun _v21 H21 =>
  endP (resR (partF (some (some 5))) H21 v1 (resT (.bool true) (some []))) K H21))
theorem eQ46_ (K : KT) (a : TE) (H : AH) : bQ46 [] (kQ46 K) a H = m_store_Store_Get K (a 0) (a 1) H :=
  by kernel_rfl
theorem m_store_Store_Get_ok (x0 x1 : AV) (H : AH) (K : KT) (h : m_store_Store_Get K x0 x1 H) : CQ.call 46 [x0, x1] H K :=
  have h1 : funP PP CQ 46 [x0, x1] H K = bQ46 [] (kQ46 K) (argE [x0, x1]) H := by kernel_rfl
  have h2 : m_store_Store_Get K (argE [x0, x1] 0) (argE [x0, x1] 1) H = m_store_Store_Get K x0 x1 H := by kernel_rfl
  funP_ok (P := PP) (by kernel_rfl) (by kernel_rfl) ((h1.trans ((eQ46_ K (argE [x0, x1]) H).trans h2)).mpr h)

/-! 50: (*fieldfare/store.Store).Items -/
abbrev bQ50 (p : List Nat) (k : KP) : KE := codeP PP CQ (subC (bodyC PP 50) p) k
abbrev kQ50 (K : KT) : KP := finP PP (resC PP 50) K
abbrev kQ50_ttt (K : KT) : KP := exP (bQ50 [1,1,1,1] (kQ50 K)) (kQ50 K)
abbrev kQ50_tttht (K : KT) : KP := blockP 0 (kQ50_ttt K)
abbrev kQ50_ttthtb (K : KT) (r0 : (AV × AV × AV × AV × AV) → AH → Prop) : KP := exP (fun (a : TE) (H : AH) => r0 (a 0, a 3, a 13, a 14, a 15) H) (kQ50_tttht K)
def m_store_Store_Itemsttthtbl (K : KT) (r0 : (AV × AV × AV × AV × AV) → AH → Prop) (x0 x3 x13 x14 x15 : AV) (H : AH) : Prop :=
  outP CQ H (w_int .lss H x15 x14) fun v1 H1 =>
  condP v1
  (outP CQ H1 (w_indexAddr (.sl 1) H1 x13 x15) fun v2 H2 =>
  outP CQ H2 (w_load none H2 v2) fun v3 H3 =>
  outP CQ H3 (w_nil H3 x0) fun v4 H4 =>
  outP CQ H4 (w_fieldAddr 0 H4 v4) fun v5 H5 =>
  outP CQ H5 (w_load none H5 v5) fun v6 H6 =>
  outP CQ H6 (w_lookup PP 3 29 false H6 v6 v3) fun v7 H7 =>
  outP CQ H7 (some (.enter 85 [v7])) fun v8 H8 =>
  outP CQ H8 (w_buildSlice PP 29 1 H8 [(0, v8)] none) fun v9 H9 =>
  outP CQ H9 (w_append 29 5 64 H9 x3 v9 none) fun v10 H10 =>
  outP CQ H10 (w_int .add H10 x15 (.int .i64 1)) fun v11 H11 =>
  r0 (x0, v10, x13, x14, v11) H11)
  (K x3 H1)
theorem eQ50_ttthtbl (K : KT) (r0 : (AV × AV × AV × AV × AV) → AH → Prop) (a : TE) (H : AH) : bQ50 [1,1,1,0,1,0,0] (kQ50_ttthtb K r0) a H = m_store_Store_Itemsttthtbl K r0 (a 0) (a 3) (a 13) (a 14) (a 15) H :=
  by kernel_rfl
def m_store_Store_Itemsttthtb (K : KT) (x0 x3 x13 x14 x15 : AV) (H : AH) : Prop :=
  loopP (fun (r0 : (AV × AV × AV × AV × AV) → AH → Prop) (s : (AV × AV × AV × AV × AV)) (H : AH) => m_store_Store_Itemsttthtbl K r0 s.1 s.2.1 s.2.2.1 s.2.2.2.1 s.2.2.2.2 H) (x0, x3, x13, x14, x15) H
theorem eQ50_ttthtb (K : KT) (a : TE) (H : AH) : bQ50 [1,1,1,0,1,0] (kQ50_tttht K) a H = m_store_Store_Itemsttthtb K (a 0) (a 3) (a 13) (a 14) (a 15) H :=
  eLoopK (S := (AV × AV × AV × AV × AV)) (fun a => (a 0, a 3, a 13, a 14, a 15)) (fun r0 s H => m_store_Store_Itemsttthtbl K r0 s.1 s.2.1 s.2.2.1 s.2.2.2.1 s.2.2.2.2 H) (by kernel_rfl) (fun r => by kernel_rfl) (eQ50_ttthtbl K)
theorem eQ50_tttht (K : KT) (a : TE) (H : AH) : bQ50 [1,1,1,0,1] (kQ50_ttt K) a H = m_store_Store_Itemsttthtb K (a 0) (a 3) (a 13) (a 14) (a 15) H :=
  eBlockK 0 (by kernel_rfl) (by kernel_rfl) (eQ50_ttthtb K a H)
def m_store_Store_Itemsttth (K : KT) (x0 x3 : AV) (H : AH) : Prop :=
  outP CQ H (w_nil H x0) fun v1 H1 =>
  outP CQ H1 (w_fieldAddr 0 H1 v1) fun v2 H2 =>
  outP CQ H2 (w_load none H2 v2) fun v3 H3 =>
  outP CQ H3 (some (.enter 120 [v3])) fun v4 H4 =>
  outP CQ H4 (some (.enter 119 [v4])) fun v5 H5 =>
  outP CQ H5 (w_len PP 54 H5 v5) fun v6 H6 =>
  m_store_Store_Itemsttthtb K x0 x3 v5 v6 (.int .i64 0) H6
theorem eQ50_ttth (K : KT) (a : TE) (H : AH) : bQ50 [1,1,1,0] (kQ50_ttt K) a H = m_store_Store_Itemsttth K (a 0) (a 3) H :=
  eSeq (ca := subC (bodyC PP 50) [1,1,1,0,0]) (by kernel_rfl) (eQ50_tttht K) (by kernel_rfl)
theorem eQ50_ttt (K : KT) (a : TE) (H : AH) : bQ50 [1,1,1] (kQ50 K) a H = m_store_Store_Itemsttth K (a 0) (a 3) H :=
  eSeqJ (subC (bodyC PP 50) [1,1,1,1]) (by kernel_rfl) (by kernel_rfl) (eQ50_ttth K a H)
def m_store_Store_Itemstt (K : KT) (x0 : AV) (H : AH) : Prop :=
  m_store_Store_Itemsttth K x0 (.slice none 0 0 true) H
theorem eQ50_tt (K : KT) (a : TE) (H : AH) : bQ50 [1,1] (kQ50 K) a H = m_store_Store_Itemstt K (a 0) H :=
  eSeq (ca := subC (bodyC PP 50) [1,1,0]) (by kernel_rfl) (eQ50_ttt K) (by kernel_rfl)
def m_store_Store_Itemst (K : KT) (x0 : AV) (H : AH) : Prop :=
  outP CQ H (w_eq PP .eql 84 false true H x0 (.ptr none)) fun v1 H1 =>
  condP v1
  (K (.slice none 0 0 true) H1)
  (m_store_Store_Itemstt K x0 H1)
theorem eQ50_t (K : KT) (a : TE) (H : AH) : bQ50 [1] (kQ50 K) a H = m_store_Store_Itemst K (a 0) H :=
  eSeq (ca := subC (bodyC PP 50) [1,0]) (by kernel_rfl) (eQ50_tt K) (by kernel_rfl)
def m_store_Store_Items (K : KT) (x0 : AV) (H : AH) : Prop :=
  m_store_Store_Itemst K x0 H
theorem eQ50_ (K : KT) (a : TE) (H : AH) : bQ50 [] (kQ50 K) a H = m_store_Store_Items K (a 0) H :=
  eSeq (ca := subC (bodyC PP 50) [0]) (by kernel_rfl) (eQ50_t K) (by kernel_rfl)
theorem m_store_Store_Items_ok (x0 : AV) (H : AH) (K : KT) (h : m_store_Store_Items K x0 H) : CQ.call 50 [x0] H K :=
  have h1 : funP PP CQ 50 [x0] H K = bQ50 [] (kQ50 K) (argE [x0]) H := by kernel_rfl
  have h2 : m_store_Store_Items K (argE [x0] 0) H = m_store_Store_Items K x0 H := by kernel_rfl
  funP_ok (P := PP) (by kernel_rfl) (by kernel_rfl) ((h1.trans ((eQ50_ K (argE [x0]) H).trans h2)).mpr h)

/-! 48: (*fieldfare/store.Store).Len -/
abbrev bQ48 (p : List Nat) (k : KP) : KE := codeP PP CQ (subC (bodyC PP 48) p) k
abbrev kQ48 (K : KT) : KP := finP PP (resC PP 48) K
abbrev kQ48_tt (K : KT) : KP := exP (bQ48 [1,1,1] (kQ48 K)) (kQ48 K)
abbrev kQ48_ttht (K : KT) : KP := blockP 0 (kQ48_tt K)
abbrev kQ48_tthtb (K : KT) (r0 : (AV × AV × AV × AV) → AH → Prop) : KP := exP (fun (a : TE) (H : AH) => r0 (a 3, a 7, a 8, a 9) H) (kQ48_ttht K)
def m_store_Store_Lentthtbl (K : KT) (r0 : (AV × AV × AV × AV) → AH → Prop) (x3 x7 x8 x9 : AV) (H : AH) : Prop :=
  outP CQ H (w_int .lss H x9 x8) fun v1 H1 =>
  condP v1
  (outP CQ H1 (w_indexAddr (.sl 5) H1 x7 x9) fun v2 H2 =>
  outP CQ H2 (w_load (some 5) H2 v2) fun v3 H3 =>
  outP CQ H3 (w_alloc 29 [(.int .i64 0), (.slice none 0 0 true), (.str []), (.int .i64 0), (.bool false)] H3 none) fun v4 H4 =>
  outP CQ H4 (w_store 5 H4 v4 v3) fun _v5 H5 =>
  outP CQ H5 (w_fieldAddr 4 H5 v4) fun v6 H6 =>
  outP CQ H6 (w_load none H6 v6) fun v7 H7 =>
  outP CQ H7 (w_un .not H7 v7) fun v8 H8 =>
  condP v8
  (outP CQ H8 (w_int .add H8 x3 (.int .i64 1)) fun v9 H9 =>
  outP CQ H9 (w_int .add H9 x9 (.int .i64 1)) fun v10 H10 =>
  r0 (v9, x7, x8, v10) H10)
  (outP CQ H8 (w_int .add H8 x9 (.int .i64 1)) fun v11 H11 =>
  r0 (x3, x7, x8, v11) H11))
  (K x3 H1)
theorem eQ48_tthtbl (K : KT) (r0 : (AV × AV × AV × AV) → AH → Prop) (a : TE) (H : AH) : bQ48 [1,1,0,1,0,0] (kQ48_tthtb K r0) a H = m_store_Store_Lentthtbl K r0 (a 3) (a 7) (a 8) (a 9) H :=
  by kernel_rfl
def m_store_Store_Lentthtb (K : KT) (x3 x7 x8 x9 : AV) (H : AH) : Prop :=
  loopP (fun (r0 : (AV × AV × AV × AV) → AH → Prop) (s : (AV × AV × AV × AV)) (H : AH) => m_store_Store_Lentthtbl K r0 s.1 s.2.1 s.2.2.1 s.2.2.2 H) (x3, x7, x8, x9) H
theorem eQ48_tthtb (K : KT) (a : TE) (H : AH) : bQ48 [1,1,0,1,0] (kQ48_ttht K) a H = m_store_Store_Lentthtb K (a 3) (a 7) (a 8) (a 9) H :=
  eLoopK (S := (AV × AV × AV × AV)) (fun a => (a 3, a 7, a 8, a 9)) (fun r0 s H => m_store_Store_Lentthtbl K r0 s.1 s.2.1 s.2.2.1 s.2.2.2 H) (by kernel_rfl) (fun r => by kernel_rfl) (eQ48_tthtbl K)
theorem eQ48_ttht (K : KT) (a : TE) (H : AH) : bQ48 [1,1,0,1] (kQ48_tt K) a H = m_store_Store_Lentthtb K (a 3) (a 7) (a 8) (a 9) H :=
  eBlockK 0 (by kernel_rfl) (by kernel_rfl) (eQ48_tthtb K a H)
def m_store_Store_Lentth (K : KT) (x0 x3 : AV) (H : AH) : Prop :=
  outP CQ H (some (.enter 50 [x0])) fun v1 H1 =>
  outP CQ H1 (w_len PP 108 H1 v1) fun v2 H2 =>
  m_store_Store_Lentthtb K x3 v1 v2 (.int .i64 0) H2
theorem eQ48_tth (K : KT) (a : TE) (H : AH) : bQ48 [1,1,0] (kQ48_tt K) a H = m_store_Store_Lentth K (a 0) (a 3) H :=
  eSeq (ca := subC (bodyC PP 48) [1,1,0,0]) (by kernel_rfl) (eQ48_ttht K) (by kernel_rfl)
theorem eQ48_tt (K : KT) (a : TE) (H : AH) : bQ48 [1,1] (kQ48 K) a H = m_store_Store_Lentth K (a 0) (a 3) H :=
  eSeqJ (subC (bodyC PP 48) [1,1,1]) (by kernel_rfl) (by kernel_rfl) (eQ48_tth K a H)
def m_store_Store_Lent (K : KT) (x0 : AV) (H : AH) : Prop :=
  m_store_Store_Lentth K x0 (.int .i64 0) H
theorem eQ48_t (K : KT) (a : TE) (H : AH) : bQ48 [1] (kQ48 K) a H = m_store_Store_Lent K (a 0) H :=
  eSeq (ca := subC (bodyC PP 48) [1,0]) (by kernel_rfl) (eQ48_tt K) (by kernel_rfl)
def m_store_Store_Len (K : KT) (x0 : AV) (H : AH) : Prop :=
  m_store_Store_Lent K x0 H
theorem eQ48_ (K : KT) (a : TE) (H : AH) : bQ48 [] (kQ48 K) a H = m_store_Store_Len K (a 0) H :=
  eSeq (ca := subC (bodyC PP 48) [0]) (by kernel_rfl) (eQ48_t K) (by kernel_rfl)
theorem m_store_Store_Len_ok (x0 : AV) (H : AH) (K : KT) (h : m_store_Store_Len K x0 H) : CQ.call 48 [x0] H K :=
  have h1 : funP PP CQ 48 [x0] H K = bQ48 [] (kQ48 K) (argE [x0]) H := by kernel_rfl
  have h2 : m_store_Store_Len K (argE [x0] 0) H = m_store_Store_Len K x0 H := by kernel_rfl
  funP_ok (P := PP) (by kernel_rfl) (by kernel_rfl) ((h1.trans ((eQ48_ K (argE [x0]) H).trans h2)).mpr h)

/-! 120: maps.Keys[map[int]fieldfare/api.Item,int,fieldfare/api.Item] -/
abbrev bQ120 (p : List Nat) (k : KP) : KE := codeP PP CQ (subC (bodyC PP 120) p) k
abbrev kQ120 (K : KT) : KP := finP PP (resC PP 120) K
def m_maps_Keys_api_Item_int_api_Item (K : KT) (x0 : AV) (H : AH) : Prop :=
  outP CQ H (w_box 164 H x0 none) fun v1 H1 =>
  outP CQ H1 (some (.val (.fn (.func 204) [] [v1]) H1)) fun v2 H2 =>
  K v2 H2
theorem eQ120_ (K : KT) (a : TE) (H : AH) : bQ120 [] (kQ120 K) a H = m_maps_Keys_api_Item_int_api_Item K (a 0) H :=
  by kernel_rfl
theorem m_maps_Keys_api_Item_int_api_Item_ok (x0 : AV) (H : AH) (K : KT) (h : m_maps_Keys_api_Item_int_api_Item K x0 H) : CQ.call 120 [x0] H K :=
  have h1 : funP PP CQ 120 [x0] H K = bQ120 [] (kQ120 K) (argE [x0]) H := by kernel_rfl
  have h2 : m_maps_Keys_api_Item_int_api_Item K (argE [x0] 0) H = m_maps_Keys_api_Item_int_api_Item K x0 H := by kernel_rfl
  funP_ok (P := PP) (by kernel_rfl) (by kernel_rfl) ((h1.trans ((eQ120_ K (argE [x0]) H).trans h2)).mpr h)

/-! 34: (*fieldfare/index.Index).Put -/
abbrev bQ34 (p : List Nat) (k : KP) : KE := codeP PP CQ (subC (bodyC PP 34) p) k
abbrev kQ34 (K : KT) : KP := finP PP (resC PP 34) K
def m_index_Index_Put (K : KT) (x0 x1 x2 x3 : AV) (H : AH) : Prop :=
  outP CQ H (w_eq PP .eql 85 false true H x0 (.ptr none)) fun v1 H1 =>
  condP v1
  (outP CQ H1 (some (.enter 86 [(.int .i64 9)])) fun v2 H2 =>
  K v2 H2)
  (outP CQ H1 (w_int .lss H1 x1 (.int .i64 1)) fun v3 H3 =>
  guardP (boolIs false v3) H3 (outP CQ H3 (some (.val x1 H3))) fun v4 H4 =>
  guardP (boolIs false v3) H4 (outP CQ H4 (w_int .gtr H4 v4 (.int .i64 1000))) fun v5 H5 =>
  outP CQ H5 (w_pick H5 v3 (.bool true) v5) fun v6 H6 =>
  condP v6
  (outP CQ H6 (some (.enter 86 [(.int .i64 2)])) fun v7 H7 =>
  K v7 H7)
  (outP CQ H6 (w_nil H6 x0) fun v8 H8 =>
  outP CQ H8 (w_fieldAddr 2 H8 v8) fun v9 H9 =>
  outP CQ H9 (w_load none H9 v9) fun v10 H10 =>
  outP CQ H10 (some (.enter 87 [x2, v10])) fun v11 H11 =>
  outP CQ H11 (w_un .not H11 v11) fun v12 H12 =>
  condP v12
  (outP CQ H12 (some (.enter 86 [(.int .i64 1)])) fun v13 H13 =>
  K v13 H13)
  (outP CQ H12 (w_nil H12 x0) fun v14 H14 =>
  outP CQ H14 (w_fieldAddr 0 H14 v14) fun v15 H15 =>
  outP CQ H15 (w_load none H15 v15) fun v16 H16 =>
  outP CQ H16 (w_int .eql H16 v16 (.int .i64 1)) fun v17 H17 =>
  condP v17
  (outP CQ H17 (w_nil H17 x0) fun v18 H18 =>
  outP CQ H18 (w_fieldAddr 3 H18 v18) fun v19 H19 =>
  outP CQ H19 (w_load none H19 v19) fun v20 H20 =>
  outP CQ H20 (some (.enter 88 [v20, x1, x2])) fun _v21 H21 =>
  K .nilIface H21)
  (outP CQ H17 (w_int .eql H17 v16 (.int .i64 2)) fun v22 H22 =>
  condP v22
  (outP CQ H22 (w_nil H22 x0) fun v23 H23 =>
  outP CQ H23 (w_fieldAddr 4 H23 v23) fun v24 H24 =>
  outP CQ H24 (w_load none H24 v24) fun v25 H25 =>
  outP CQ H25 (some (.enter 89 [v25, x1, x2])) fun _v26 H26 =>
  K .nilIface H26)
  (outP CQ H22 (w_int .eql H22 v16 (.int .i64 3)) fun v27 H27 =>
  condP v27
  (outP CQ H27 (w_nil H27 x0) fun v28 H28 =>
  outP CQ H28 (w_fieldAddr 5 H28 v28) fun v29 H29 =>
  outP CQ H29 (w_load none H29 v29) fun v30 H30 =>
  outP CQ H30 (some (.enter 90 [v30, x1, x2, x3])) fun _v31 H31 =>
  K .nilIface H31)
  (outP CQ H27 (w_int .eql H27 v16 (.int .i64 4)) fun v32 H32 =>
  condP v32
  (outP CQ H32 (w_nil H32 x0) fun v33 H33 =>
  outP CQ H33 (w_fieldAddr 6 H33 v33) fun v34 H34 =>
  outP CQ H34 (w_load none H34 v34) fun v35 H35 =>
  outP CQ H35 (some (.enter 91 [v35, x1, x2])) fun _v36 H36 =>
  K .nilIface H36)
  (K .nilIface H32)))))))
theorem eQ34_ (K : KT) (a : TE) (H : AH) : bQ34 [] (kQ34 K) a H = m_index_Index_Put K (a 0) (a 1) (a 2) (a 3) H :=
  by kernel_rfl
theorem m_index_Index_Put_ok (x0 x1 x2 x3 : AV) (H : AH) (K : KT) (h : m_index_Index_Put K x0 x1 x2 x3 H) : CQ.call 34 [x0, x1, x2, x3] H K :=
  have h1 : funP PP CQ 34 [x0, x1, x2, x3] H K = bQ34 [] (kQ34 K) (argE [x0, x1, x2, x3]) H := by kernel_rfl
  have h2 : m_index_Index_Put K (argE [x0, x1, x2, x3] 0) (argE [x0, x1, x2, x3] 1) (argE [x0, x1, x2, x3] 2) (argE [x0, x1, x2, x3] 3) H = m_index_Index_Put K x0 x1 x2 x3 H := by kernel_rfl
  funP_ok (P := PP) (by kernel_rfl) (by kernel_rfl) ((h1.trans ((eQ34_ K (argE [x0, x1, x2, x3]) H).trans h2)).mpr h)

/-! 82: fieldfare/index.New -/
abbrev bQ82 (p : List Nat) (k : KP) : KE := codeP PP CQ (subC (bodyC PP 82) p) k
abbrev kQ82 (K : KT) : KP := finP PP (resC PP 82) K
def m_index_Newtttttt (K : KT) (x14 : AV) (H : AH) : Prop :=
  K (.tup [x14, .nilIface]) H
theorem eQ82_tttttt (K : KT) (a : TE) (H : AH) : bQ82 [1,1,1,1,1,1] (kQ82 K) a H = m_index_Newtttttt K (a 14) H :=
  by kernel_rfl
def m_index_Newttttt (K : KT) (x0 x1 x2 x11 x14 : AV) (H : AH) : Prop :=
  outP CQ H (w_int .eql H x0 (.int .i64 1)) fun v1 H1 =>
  condP v1
  (outP CQ H1 (some (.enter 167 [x1])) fun v2 H2 =>
  outP CQ H2 (w_nil H2 x14) fun v3 H3 =>
  outP CQ H3 (w_fieldAddr 3 H3 v3) fun v4 H4 =>
  outP CQ H4 (w_store 1 H4 v4 v2) fun _v5 H5 =>
  m_index_Newtttttt K x14 H5)
  (outP CQ H1 (w_int .eql H1 x0 (.int .i64 2)) fun v6 H6 =>
  condP v6
  (outP CQ H6 (some (.enter 168 [x1, x11])) fun v7 H7 =>
  outP CQ H7 (w_nil H7 x14) fun v8 H8 =>
  outP CQ H8 (w_fieldAddr 4 H8 v8) fun v9 H9 =>
  outP CQ H9 (w_store 1 H9 v9 v7) fun _v10 H10 =>
  m_index_Newtttttt K x14 H10)
  (outP CQ H6 (w_int .eql H6 x0 (.int .i64 3)) fun v11 H11 =>
  condP v11
  (outP CQ H11 (some (.enter 169 [x1])) fun v12 H12 =>
  outP CQ H12 (w_nil H12 x14) fun v13 H13 =>
  outP CQ H13 (w_fieldAddr 5 H13 v13) fun v14 H14 =>
  outP CQ H14 (w_store 1 H14 v14 v12) fun _v15 H15 =>
  m_index_Newtttttt K x14 H15)
  (outP CQ H11 (w_int .eql H11 x0 (.int .i64 4)) fun v16 H16 =>
  condP v16
  (outP CQ H16 (some (.enter 170 [x1, x2, x11])) fun v17 H17 =>
  outP CQ H17 (w_nil H17 x14) fun v18 H18 =>
  outP CQ H18 (w_fieldAddr 6 H18 v18) fun v19 H19 =>
  outP CQ H19 (w_store 1 H19 v19 v17) fun _v20 H20 =>
  m_index_Newtttttt K x14 H20)
  (m_index_Newtttttt K x14 H16))))
theorem eQ82_ttttt (K : KT) (a : TE) (H : AH) : bQ82 [1,1,1,1,1] (kQ82 K) a H = m_index_Newttttt K (a 0) (a 1) (a 2) (a 11) (a 14) H :=
  eSeq (ca := subC (bodyC PP 82) [1,1,1,1,1,0]) (by kernel_rfl) (eQ82_tttttt K) (by kernel_rfl)
def m_index_Newtttt (K : KT) (x0 x1 x2 x11 : AV) (H : AH) : Prop :=
  outP CQ H (w_build PP 174 H [(0, x0), (1, x1), (2, x2)]) fun v1 H1 =>
  outP CQ H1 (w_box 174 H1 v1 none) fun v2 H2 =>
  m_index_Newttttt K x0 x1 x2 x11 v2 H2
theorem eQ82_tttt (K : KT) (a : TE) (H : AH) : bQ82 [1,1,1,1] (kQ82 K) a H = m_index_Newtttt K (a 0) (a 1) (a 2) (a 11) H :=
  eSeq (ca := subC (bodyC PP 82) [1,1,1,1,0]) (by kernel_rfl) (eQ82_ttttt K) (by kernel_rfl)
abbrev kQ82_ttt (K : KT) : KP := exP (fun (a : TE) (H : AH) => m_index_Newtttt K (a 0) (a 1) (a 2) (a 11) H) (kQ82 K)
abbrev kQ82_tttht (K : KT) : KP := blockP 0 (kQ82_ttt K)
abbrev kQ82_ttthtb (K : KT) (r0 : (AV × AV × AV × AV × AV × AV × AV) → AH → Prop) : KP := exP (fun (a : TE) (H : AH) => r0 (a 0, a 1, a 2, a 11, a 23, a 24, a 25) H) (kQ82_tttht K)
def m_index_Newttthtbl (K : KT) (r0 : (AV × AV × AV × AV × AV × AV × AV) → AH → Prop) (x0 x1 x2 x11 x23 x24 x25 : AV) (H : AH) : Prop :=
  outP CQ H (w_int .lss H x25 x24) fun v1 H1 =>
  condP v1
  (outP CQ H1 (w_indexAddr (.sl 1) H1 x23 x25) fun v2 H2 =>
  outP CQ H2 (w_load none H2 v2) fun v3 H3 =>
  outP CQ H3 (some (.enter 87 [v3, x2])) fun v4 H4 =>
  condP v4
  (outP CQ H4 (w_buildSlice PP 27 1 H4 [(0, v3)] none) fun v5 H5 =>
  outP CQ H5 (w_append 27 1 24 H5 x11 v5 none) fun v6 H6 =>
  outP CQ H6 (w_int .add H6 x25 (.int .i64 1)) fun v7 H7 =>
  r0 (x0, x1, x2, v6, x23, x24, v7) H7)
  (outP CQ H4 (w_int .add H4 x25 (.int .i64 1)) fun v8 H8 =>
  r0 (x0, x1, x2, x11, x23, x24, v8) H8))
  (m_index_Newtttt K x0 x1 x2 x11 H1)
theorem eQ82_ttthtbl (K : KT) (r0 : (AV × AV × AV × AV × AV × AV × AV) → AH → Prop) (a : TE) (H : AH) : bQ82 [1,1,1,0,1,0,0] (kQ82_ttthtb K r0) a H = m_index_Newttthtbl K r0 (a 0) (a 1) (a 2) (a 11) (a 23) (a 24) (a 25) H :=
  by kernel_rfl
def m_index_Newttthtb (K : KT) (x0 x1 x2 x11 x23 x24 x25 : AV) (H : AH) : Prop :=
  loopP (fun (r0 : (AV × AV × AV × AV × AV × AV × AV) → AH → Prop) (s : (AV × AV × AV × AV × AV × AV × AV)) (H : AH) => m_index_Newttthtbl K r0 s.1 s.2.1 s.2.2.1 s.2.2.2.1 s.2.2.2.2.1 s.2.2.2.2.2.1 s.2.2.2.2.2.2 H) (x0, x1, x2, x11, x23, x24, x25) H
theorem eQ82_ttthtb (K : KT) (a : TE) (H : AH) : bQ82 [1,1,1,0,1,0] (kQ82_tttht K) a H = m_index_Newttthtb K (a 0) (a 1) (a 2) (a 11) (a 23) (a 24) (a 25) H :=
  eLoopK (S := (AV × AV × AV × AV × AV × AV × AV)) (fun a => (a 0, a 1, a 2, a 11, a 23, a 24, a 25)) (fun r0 s H => m_index_Newttthtbl K r0 s.1 s.2.1 s.2.2.1 s.2.2.2.1 s.2.2.2.2.1 s.2.2.2.2.2.1 s.2.2.2.2.2.2 H) (by kernel_rfl) (fun r => by kernel_rfl) (eQ82_ttthtbl K)
theorem eQ82_tttht (K : KT) (a : TE) (H : AH) : bQ82 [1,1,1,0,1] (kQ82_ttt K) a H = m_index_Newttthtb K (a 0) (a 1) (a 2) (a 11) (a 23) (a 24) (a 25) H :=
  eBlockK 0 (by kernel_rfl) (by kernel_rfl) (eQ82_ttthtb K a H)
def m_index_Newttth (K : KT) (x0 x1 x2 x3 x11 : AV) (H : AH) : Prop :=
  outP CQ H (w_len PP 22 H x3) fun v1 H1 =>
  m_index_Newttthtb K x0 x1 x2 x11 x3 v1 (.int .i64 0) H1
theorem eQ82_ttth (K : KT) (a : TE) (H : AH) : bQ82 [1,1,1,0] (kQ82_ttt K) a H = m_index_Newttth K (a 0) (a 1) (a 2) (a 3) (a 11) H :=
  eSeq (ca := subC (bodyC PP 82) [1,1,1,0,0]) (by kernel_rfl) (eQ82_tttht K) (by kernel_rfl)
theorem eQ82_ttt (K : KT) (a : TE) (H : AH) : bQ82 [1,1,1] (kQ82 K) a H = m_index_Newttth K (a 0) (a 1) (a 2) (a 3) (a 11) H :=
  eSeqK (by kernel_rfl) (eQ82_tttt K) (by kernel_rfl) (eQ82_ttth K a H)
def m_index_Newtt (K : KT) (x0 x1 x2 x3 : AV) (H : AH) : Prop :=
  m_index_Newttth K x0 x1 x2 x3 (.slice none 0 0 true) H
theorem eQ82_tt (K : KT) (a : TE) (H : AH) : bQ82 [1,1] (kQ82 K) a H = m_index_Newtt K (a 0) (a 1) (a 2) (a 3) H :=
  eSeq (ca := subC (bodyC PP 82) [1,1,0]) (by kernel_rfl) (eQ82_ttt K) (by kernel_rfl)
def m_index_Newt (K : KT) (x0 x1 x2 x3 : AV) (H : AH) : Prop :=
  outP CQ H (some (.enter 166 [x0, x1, x2])) fun v1 H1 =>
  outP CQ H1 (w_int .neq H1 v1 (.int .i64 0)) fun v2 H2 =>
  condP v2
  (outP CQ H2 (some (.enter 86 [v1])) fun v3 H3 =>
  K (.tup [(.ptr none), v3]) H3)
  (m_index_Newtt K x0 x1 x2 x3 H2)
theorem eQ82_t (K : KT) (a : TE) (H : AH) : bQ82 [1] (kQ82 K) a H = m_index_Newt K (a 0) (a 1) (a 2) (a 3) H :=
  eSeq (ca := subC (bodyC PP 82) [1,0]) (by kernel_rfl) (eQ82_tt K) (by kernel_rfl)
def m_index_New (K : KT) (x0 x1 x2 x3 : AV) (H : AH) : Prop :=
  m_index_Newt K x0 x1 x2 x3 H
theorem eQ82_ (K : KT) (a : TE) (H : AH) : bQ82 [] (kQ82 K) a H = m_index_New K (a 0) (a 1) (a 2) (a 3) H :=
  eSeq (ca := subC (bodyC PP 82) [0]) (by kernel_rfl) (eQ82_t K) (by kernel_rfl)
theorem m_index_New_ok (x0 x1 x2 x3 : AV) (H : AH) (K : KT) (h : m_index_New K x0 x1 x2 x3 H) : CQ.call 82 [x0, x1, x2, x3] H K :=
  have h1 : funP PP CQ 82 [x0, x1, x2, x3] H K = bQ82 [] (kQ82 K) (argE [x0, x1, x2, x3]) H := by kernel_rfl
  have h2 : m_index_New K (argE [x0, x1, x2, x3] 0) (argE [x0, x1, x2, x3] 1) (argE [x0, x1, x2, x3] 2) (argE [x0, x1, x2, x3] 3) H = m_index_New K x0 x1 x2 x3 H := by kernel_rfl
  funP_ok (P := PP) (by kernel_rfl) (by kernel_rfl) ((h1.trans ((eQ82_ K (argE [x0, x1, x2, x3]) H).trans h2)).mpr h)

/-! 123: fieldfare/index.Blocks -/
abbrev bQ123 (p : List Nat) (k : KP) : KE := codeP PP CQ (subC (bodyC PP 123) p) k
abbrev kQ123 (K : KT) : KP := finP PP (resC PP 123) K
def m_index_Blockstttttt (K : KT) (x6 x7 x8 : AV) (H : AH) : Prop :=
  outP CQ H (w_int .add H x8 x6) fun v1 H1 =>
  outP CQ H1 (w_int .mul H1 x7 v1) fun v2 H2 =>
  K v2 H2
theorem eQ123_tttttt (K : KT) (a : TE) (H : AH) : bQ123 [1,1,1,1,1,1] (kQ123 K) a H = m_index_Blockstttttt K (a 6) (a 7) (a 8) H :=
  by kernel_rfl
def m_index_Blocksttttt (K : KT) (x1 x5 x6 x7 x8 : AV) (H : AH) : Prop :=
  outP CQ H (w_int .rem H x1 x5) fun v1 H1 =>
  outP CQ H1 (w_int .gtr H1 v1 (.int .i64 0)) fun v2 H2 =>
  condP v2
  (outP CQ H2 (w_int .add H2 x8 (.int .i64 1)) fun v3 H3 =>
  m_index_Blockstttttt K x6 x7 v3 H3)
  (m_index_Blockstttttt K x6 x7 x8 H2)
theorem eQ123_ttttt (K : KT) (a : TE) (H : AH) : bQ123 [1,1,1,1,1] (kQ123 K) a H = m_index_Blocksttttt K (a 1) (a 5) (a 6) (a 7) (a 8) H :=
  eSeq (ca := subC (bodyC PP 123) [1,1,1,1,1,0]) (by kernel_rfl) (eQ123_tttttt K) (by kernel_rfl)
def m_index_Blockstttt (K : KT) (x1 x5 x6 x7 : AV) (H : AH) : Prop :=
  outP CQ H (w_int .quo H x1 x5) fun v1 H1 =>
  m_index_Blocksttttt K x1 x5 x6 x7 v1 H1
theorem eQ123_tttt (K : KT) (a : TE) (H : AH) : bQ123 [1,1,1,1] (kQ123 K) a H = m_index_Blockstttt K (a 1) (a 5) (a 6) (a 7) H :=
  eSeq (ca := subC (bodyC PP 123) [1,1,1,1,0]) (by kernel_rfl) (eQ123_ttttt K) (by kernel_rfl)
def m_index_Blocksttt (K : KT) (x0 x1 x5 x6 x7 : AV) (H : AH) : Prop :=
  outP CQ H (w_int .eql H x0 (.int .i64 3)) fun v1 H1 =>
  condP v1
  (m_index_Blockstttt K x1 x5 (.int .i64 1) (.int .i64 2) H1)
  (outP CQ H1 (w_int .eql H1 x0 (.int .i64 2)) fun v2 H2 =>
  condP v2
  (m_index_Blockstttt K x1 x5 (.int .i64 1) x7 H2)
  (outP CQ H2 (w_int .eql H2 x0 (.int .i64 1)) fun v3 H3 =>
  condP v3
  (m_index_Blockstttt K x1 x5 x6 x7 H3)
  (outP CQ H3 (w_int .eql H3 x0 (.int .i64 4)) fun v4 H4 =>
  condP v4
  (m_index_Blockstttt K x1 (.int .i64 16) (.int .i64 1) x7 H4)
  (K (.int .i64 0) H4))))
theorem eQ123_ttt (K : KT) (a : TE) (H : AH) : bQ123 [1,1,1] (kQ123 K) a H = m_index_Blocksttt K (a 0) (a 1) (a 5) (a 6) (a 7) H :=
  eSeq (ca := subC (bodyC PP 123) [1,1,1,0]) (by kernel_rfl) (eQ123_tttt K) (by kernel_rfl)
def m_index_Blockstt (K : KT) (x0 x1 : AV) (H : AH) : Prop :=
  m_index_Blocksttt K x0 x1 (.int .i64 8) (.int .i64 0) (.int .i64 1) H
theorem eQ123_tt (K : KT) (a : TE) (H : AH) : bQ123 [1,1] (kQ123 K) a H = m_index_Blockstt K (a 0) (a 1) H :=
  eSeq (ca := subC (bodyC PP 123) [1,1,0]) (by kernel_rfl) (eQ123_ttt K) (by kernel_rfl)
def m_index_Blockst (K : KT) (x0 x1 : AV) (H : AH) : Prop :=
  outP CQ H (w_max2 H x1 (.int .i64 0)) fun v1 H1 =>
  m_index_Blockstt K x0 v1 H1
theorem eQ123_t (K : KT) (a : TE) (H : AH) : bQ123 [1] (kQ123 K) a H = m_index_Blockst K (a 0) (a 1) H :=
  eSeq (ca := subC (bodyC PP 123) [1,0]) (by kernel_rfl) (eQ123_tt K) (by kernel_rfl)
def m_index_Blocks (K : KT) (x0 x1 : AV) (H : AH) : Prop :=
  m_index_Blockst K x0 x1 H
theorem eQ123_ (K : KT) (a : TE) (H : AH) : bQ123 [] (kQ123 K) a H = m_index_Blocks K (a 0) (a 1) H :=
  eSeq (ca := subC (bodyC PP 123) [0]) (by kernel_rfl) (eQ123_t K) (by kernel_rfl)
theorem m_index_Blocks_ok (x0 x1 : AV) (H : AH) (K : KT) (h : m_index_Blocks K x0 x1 H) : CQ.call 123 [x0, x1] H K :=
  have h1 : funP PP CQ 123 [x0, x1] H K = bQ123 [] (kQ123 K) (argE [x0, x1]) H := by kernel_rfl
  have h2 : m_index_Blocks K (argE [x0, x1] 0) (argE [x0, x1] 1) H = m_index_Blocks K x0 x1 H := by kernel_rfl
  funP_ok (P := PP) (by kernel_rfl) (by kernel_rfl) ((h1.trans ((eQ123_ K (argE [x0, x1]) H).trans h2)).mpr h)

/-! 95: (*fieldfare/index.Index).Kind -/
abbrev bQ95 (p : List Nat) (k : KP) : KE := codeP PP CQ (subC (bodyC PP 95) p) k
abbrev kQ95 (K : KT) : KP := finP PP (resC PP 95) K
def m_index_Index_Kind (K : KT) (x0 : AV) (H : AH) : Prop :=
  outP CQ H (w_eq PP .eql 85 false true H x0 (.ptr none)) fun v1 H1 =>
  condP v1
  (K (.int .i64 0) H1)
  (outP CQ H1 (w_nil H1 x0) fun v2 H2 =>
  outP CQ H2 (w_fieldAddr 0 H2 v2) fun v3 H3 =>
  outP CQ H3 (w_load none H3 v3) fun v4 H4 =>
  K v4 H4)
theorem eQ95_ (K : KT) (a : TE) (H : AH) : bQ95 [] (kQ95 K) a H = m_index_Index_Kind K (a 0) H :=
  by kernel_rfl
theorem m_index_Index_Kind_ok (x0 : AV) (H : AH) (K : KT) (h : m_index_Index_Kind K x0 H) : CQ.call 95 [x0] H K :=
  have h1 : funP PP CQ 95 [x0] H K = bQ95 [] (kQ95 K) (argE [x0]) H := by kernel_rfl
  have h2 : m_index_Index_Kind K (argE [x0] 0) H = m_index_Index_Kind K x0 H := by kernel_rfl
  funP_ok (P := PP) (by kernel_rfl) (by kernel_rfl) ((h1.trans ((eQ95_ K (argE [x0]) H).trans h2)).mpr h)

/-! 166: fieldfare/index.known -/
abbrev bQ166 (p : List Nat) (k : KP) : KE := codeP PP CQ (subC (bodyC PP 166) p) k
abbrev kQ166 (K : KT) : KP := finP PP (resC PP 166) K
def m_index_known (K : KT) (x0 x1 x2 : AV) (H : AH) : Prop :=
  outP CQ H (w_int .lss H x0 (.int .i64 1)) fun v1 H1 =>
  guardP (boolIs false v1) H1 (outP CQ H1 (some (.val x0 H1))) fun v2 H2 =>
  guardP (boolIs false v1) H2 (outP CQ H2 (w_int .gtr H2 v2 (.int .i64 4))) fun v3 H3 =>
  outP CQ H3 (w_pick H3 v1 (.bool true) v3) fun v4 H4 =>
  guardP (boolIs false v4) H4 (outP CQ H4 (some (.val x1 H4))) fun v5 H5 =>
  guardP (boolIs false v4) H5 (outP CQ H5 (some (.enter 199 [v5]))) fun v6 H6 =>
  guardP (boolIs false v4) H6 (outP CQ H6 (w_un .not H6 v6)) fun v7 H7 =>
  outP CQ H7 (w_pick H7 v4 (.bool true) v7) fun v8 H8 =>
  condP v8
  (K (.int .i64 12) H8)
  (outP CQ H8 (w_int .lss H8 x2 (.int .i64 1)) fun v9 H9 =>
  guardP (boolIs false v9) H9 (outP CQ H9 (some (.val x2 H9))) fun v10 H10 =>
  guardP (boolIs false v9) H10 (outP CQ H10 (w_int .gtr H10 v10 (.int .i64 8))) fun v11 H11 =>
  outP CQ H11 (w_pick H11 v9 (.bool true) v11) fun v12 H12 =>
  condP v12
  (K (.int .i64 2) H12)
  (K (.int .i64 0) H12))
theorem eQ166_ (K : KT) (a : TE) (H : AH) : bQ166 [] (kQ166 K) a H = m_index_known K (a 0) (a 1) (a 2) H :=
  by kernel_rfl
theorem m_index_known_ok (x0 x1 x2 : AV) (H : AH) (K : KT) (h : m_index_known K x0 x1 x2 H) : CQ.call 166 [x0, x1, x2] H K :=
  have h1 : funP PP CQ 166 [x0, x1, x2] H K = bQ166 [] (kQ166 K) (argE [x0, x1, x2]) H := by kernel_rfl
  have h2 : m_index_known K (argE [x0, x1, x2] 0) (argE [x0, x1, x2] 1) (argE [x0, x1, x2] 2) H = m_index_known K x0 x1 x2 H := by kernel_rfl
  funP_ok (P := PP) (by kernel_rfl) (by kernel_rfl) ((h1.trans ((eQ166_ K (argE [x0, x1, x2]) H).trans h2)).mpr h)

/-! 167: fieldfare/flat.New -/
abbrev bQ167 (p : List Nat) (k : KP) : KE := codeP PP CQ (subC (bodyC PP 167) p) k
abbrev kQ167 (K : KT) : KP := finP PP (resC PP 167) K
def m_flat_New (K : KT) (x0 : AV) (H : AH) : Prop :=
  outP CQ H (some (.enter 199 [x0])) fun v1 H1 =>
  outP CQ H1 (w_un .not H1 v1) fun v2 H2 =>
  condP v2
  (K (.ptr none) H2)
  (outP CQ H2 (w_makeMap H2 none) fun v3 H3 =>
  outP CQ H3 (w_build PP 266 H3 [(0, x0), (1, v3)]) fun v4 H4 =>
  outP CQ H4 (w_box 266 H4 v4 none) fun v5 H5 =>
  K v5 H5)
theorem eQ167_ (K : KT) (a : TE) (H : AH) : bQ167 [] (kQ167 K) a H = m_flat_New K (a 0) H :=
  by kernel_rfl
theorem m_flat_New_ok (x0 : AV) (H : AH) (K : KT) (h : m_flat_New K x0 H) : CQ.call 167 [x0] H K :=
  have h1 : funP PP CQ 167 [x0] H K = bQ167 [] (kQ167 K) (argE [x0]) H := by kernel_rfl
  have h2 : m_flat_New K (argE [x0] 0) H = m_flat_New K x0 H := by kernel_rfl
  funP_ok (P := PP) (by kernel_rfl) (by kernel_rfl) ((h1.trans ((eQ167_ K (argE [x0]) H).trans h2)).mpr h)

/-! 88: (*fieldfare/flat.Flat).Put -/
abbrev bQ88 (p : List Nat) (k : KP) : KE := codeP PP CQ (subC (bodyC PP 88) p) k
abbrev kQ88 (K : KT) : KP := finP PP (resC PP 88) K
def m_flat_Flat_Put (K : KT) (x0 x1 x2 : AV) (H : AH) : Prop :=
  outP CQ H (w_eq PP .neq 169 false true H x0 (.ptr none)) fun v1 H1 =>
  condP v1
  (outP CQ H1 (w_nil H1 x0) fun v2 H2 =>
  outP CQ H2 (w_fieldAddr 1 H2 v2) fun v3 H3 =>
  outP CQ H3 (w_load none H3 v3) fun v4 H4 =>
  outP CQ H4 (some (.enter 149 [x2])) fun v5 H5 =>
  ckP (reC true (w_load none H5 v3) v4) <|
  outP CQ H5 (w_mapUpdate PP 3 27 H5 v4 x1 v5) fun _v6 H6 =>
  K (.tup []) H6)
  (K (.tup []) H1)
theorem eQ88_ (K : KT) (a : TE) (H : AH) : bQ88 [] (kQ88 K) a H = m_flat_Flat_Put K (a 0) (a 1) (a 2) H :=
  by kernel_rfl
theorem m_flat_Flat_Put_ok (x0 x1 x2 : AV) (H : AH) (K : KT) (h : m_flat_Flat_Put K x0 x1 x2 H) : CQ.call 88 [x0, x1, x2] H K :=
  have h1 : funP PP CQ 88 [x0, x1, x2] H K = bQ88 [] (kQ88 K) (argE [x0, x1, x2]) H := by kernel_rfl
  have h2 : m_flat_Flat_Put K (argE [x0, x1, x2] 0) (argE [x0, x1, x2] 1) (argE [x0, x1, x2] 2) H = m_flat_Flat_Put K x0 x1 x2 H := by kernel_rfl
  funP_ok (P := PP) (by kernel_rfl) (by kernel_rfl) ((h1.trans ((eQ88_ K (argE [x0, x1, x2]) H).trans h2)).mpr h)

/-! 199: fieldfare/metric.Known -/
abbrev bQ199 (p : List Nat) (k : KP) : KE := codeP PP CQ (subC (bodyC PP 199) p) k
abbrev kQ199 (K : KT) : KP := finP PP (resC PP 199) K
def m_metric_Known (K : KT) (x0 : AV) (H : AH) : Prop :=
  outP CQ H (w_int .eql H x0 (.int .i64 1)) fun v1 H1 =>
  guardP (boolIs false v1) H1 (outP CQ H1 (some (.val x0 H1))) fun v2 H2 =>
  guardP (boolIs false v1) H2 (outP CQ H2 (w_int .eql H2 v2 (.int .i64 2))) fun v3 H3 =>
  outP CQ H3 (w_pick H3 v1 (.bool true) v3) fun v4 H4 =>
  K v4 H4
theorem eQ199_ (K : KT) (a : TE) (H : AH) : bQ199 [] (kQ199 K) a H = m_metric_Known K (a 0) H :=
  by kernel_rfl
theorem m_metric_Known_ok (x0 : AV) (H : AH) (K : KT) (h : m_metric_Known K x0 H) : CQ.call 199 [x0] H K :=
  have h1 : funP PP CQ 199 [x0] H K = bQ199 [] (kQ199 K) (argE [x0]) H := by kernel_rfl
  have h2 : m_metric_Known K (argE [x0] 0) H = m_metric_Known K x0 H := by kernel_rfl
  funP_ok (P := PP) (by kernel_rfl) (by kernel_rfl) ((h1.trans ((eQ199_ K (argE [x0]) H).trans h2)).mpr h)

/-! 13: fieldfare/core.New -/
abbrev bQ13 (p : List Nat) (k : KP) : KE := codeP PP CQ (subC (bodyC PP 13) p) k
abbrev kQ13 (K : KT) : KP := finP PP (resC PP 13) K
def m_core_New (K : KT) (H : AH) : Prop :=
  outP CQ H (w_makeMap H none) fun v1 H1 =>
  outP CQ H1 (w_makeMap H1 none) fun v2 H2 =>
  outP CQ H2 (w_build PP 81 H2 [(1, v1), (2, v2)]) fun v3 H3 =>
  outP CQ H3 (w_box 81 H3 v3 none) fun v4 H4 =>
  K v4 H4
theorem eQ13_ (K : KT) (a : TE) (H : AH) : bQ13 [] (kQ13 K) a H = m_core_New K H :=
  by kernel_rfl
theorem m_core_New_ok (H : AH) (K : KT) (h : m_core_New K H) : CQ.call 13 [] H K :=
  have h1 : funP PP CQ 13 [] H K = bQ13 [] (kQ13 K) (argE []) H := by kernel_rfl
  have h2 : m_core_New K H = m_core_New K H := by kernel_rfl
  funP_ok (P := PP) (by kernel_rfl) (by kernel_rfl) ((h1.trans ((eQ13_ K (argE []) H).trans h2)).mpr h)

/-! 9: (*fieldfare/core.Core).Do -/
abbrev bQ9 (p : List Nat) (k : KP) : KE := codeP PP CQ (subC (bodyC PP 9) p) k
abbrev kQ9 (K : KT) : KP := finP PP (resC PP 9) K
def m_core_Core_Dottttt (K : KT) (x4 x7 : AV) (H : AH) : Prop :=
  outP CQ H (w_build PP 34 H [(2, x7)]) fun v1 H1 =>
  outP CQ H1 (w_store 20 H1 x4 v1) fun _v2 H2 =>
  endP (resR (partF (some (some 20))) H2 x4 (resT .nilIface (some []))) K H2
theorem eQ9_ttttt (K : KT) (a : TE) (H : AH) : bQ9 [1,1,1,1,1] (kQ9 K) a H = m_core_Core_Dottttt K (a 4) (a 7) H :=
  by kernel_rfl
abbrev kQ9_tttt (K : KT) : KP := exP (fun (a : TE) (H : AH) => m_core_Core_Dottttt K (a 4) (a 7) H) (kQ9 K)
abbrev kQ9_ttttht (K : KT) : KP := blockP 0 (kQ9_tttt K)
def m_core_Core_Dotttthtbty (K : KT) (x0 x3 x4 x7 : AV) (H : AH) : Prop :=
  outP CQ H (w_load (some 11) H x3) fun v1 H1 =>
  outP CQ H1 (some (.enter 32 [x0, v1])) fun _v2 H2 =>
  m_core_Core_Dottttt K x4 x7 H2
theorem eQ9_tttthtbty (K : KT) (a : TE) (H : AH) : bQ9 [1,1,1,1,0,1,0,1,0] (kQ9_ttttht K) a H = m_core_Core_Dotttthtbty K (a 0) (a 3) (a 4) (a 7) H :=
  by kernel_rfl
def m_core_Core_Dotttthtbtnty (K : KT) (x0 x3 x4 x7 : AV) (H : AH) : Prop :=
  outP CQ H (w_nil H x0) fun v1 H1 =>
  outP CQ H1 (w_fieldAddr 1 H1 v1) fun v2 H2 =>
  outP CQ H2 (w_load none H2 v2) fun v3 H3 =>
  outP CQ H3 (w_fieldAddr 1 H3 x3) fun v4 H4 =>
  outP CQ H4 (w_load none H4 v4) fun v5 H5 =>
  outP CQ H5 (w_delete PP 77 H5 v3 v5) fun _v6 H6 =>
  m_core_Core_Dottttt K x4 x7 H6
theorem eQ9_tttthtbtnty (K : KT) (a : TE) (H : AH) : bQ9 [1,1,1,1,0,1,0,1,1,1,0] (kQ9_ttttht K) a H = m_core_Core_Dotttthtbtnty K (a 0) (a 3) (a 4) (a 7) H :=
  by kernel_rfl
def m_core_Core_Dotttthtbtntnty (K : KT) (x0 x3 x4 x7 : AV) (H : AH) : Prop :=
  outP CQ H (w_nil H x0) fun v1 H1 =>
  outP CQ H1 (w_fieldAddr 1 H1 v1) fun v2 H2 =>
  outP CQ H2 (w_load none H2 v2) fun v3 H3 =>
  outP CQ H3 (w_fieldAddr 1 H3 x3) fun v4 H4 =>
  outP CQ H4 (w_load none H4 v4) fun v5 H5 =>
  outP CQ H5 (w_lookup PP 9 83 false H5 v3 v5) fun v6 H6 =>
  outP CQ H6 (w_nil H6 v6) fun v7 H7 =>
  outP CQ H7 (w_fieldAddr 3 H7 v7) fun v8 H8 =>
  outP CQ H8 (w_load none H8 v8) fun v9 H9 =>
  outP CQ H9 (w_fieldAddr 3 H9 x3) fun v10 H10 =>
  outP CQ H10 (w_load none H10 v10) fun v11 H11 =>
  outP CQ H11 (w_fieldAddr 7 H11 x3) fun v12 H12 =>
  outP CQ H12 (w_load none H12 v12) fun v13 H13 =>
  outP CQ H13 (w_fieldAddr 8 H13 x3) fun v14 H14 =>
  outP CQ H14 (w_load none H14 v14) fun v15 H15 =>
  outP CQ H15 (w_nil H15 x0) fun v16 H16 =>
  outP CQ H16 (w_fieldAddr 0 H16 v16) fun v17 H17 =>
  outP CQ H17 (w_load none H17 v17) fun v18 H18 =>
  outP CQ H18 (some (.enter 33 [v9, v11, v13, v15, v18])) fun _v19 H19 =>
  outP CQ H19 (w_nil H19 v6) fun v20 H20 =>
  outP CQ H20 (w_fieldAddr 4 H20 v20) fun v21 H21 =>
  outP CQ H21 (w_load none H21 v21) fun v22 H22 =>
  outP CQ H22 (w_fieldAddr 3 H22 x3) fun v23 H23 =>
  outP CQ H23 (w_load none H23 v23) fun v24 H24 =>
  outP CQ H24 (w_fieldAddr 7 H24 x3) fun v25 H25 =>
  outP CQ H25 (w_load none H25 v25) fun v26 H26 =>
  outP CQ H26 (w_fieldAddr 10 H26 x3) fun v27 H27 =>
  outP CQ H27 (w_load none H27 v27) fun v28 H28 =>
  outP CQ H28 (some (.enter 34 [v22, v24, v26, v28])) fun _v29 H29 =>
  outP CQ H29 (w_fieldAddr 1 H29 x3) fun v30 H30 =>
  outP CQ H30 (w_load none H30 v30) fun v31 H31 =>
  outP CQ H31 (w_fieldAddr 3 H31 x3) fun v32 H32 =>
  outP CQ H32 (w_load none H32 v32) fun v33 H33 =>
  outP CQ H33 (w_fieldAddr 7 H33 x3) fun v34 H34 =>
  outP CQ H34 (w_load none H34 v34) fun v35 H35 =>
  outP CQ H35 (w_fieldAddr 10 H35 x3) fun v36 H36 =>
  outP CQ H36 (w_load none H36 v36) fun v37 H37 =>
  outP CQ H37 (w_build PP 92 H37 [(0, v33), (1, v35), (2, v37)]) fun v38 H38 =>
  outP CQ H38 (some (.enter 35 [x0, v31, v38])) fun _v39 H39 =>
  m_core_Core_Dottttt K x4 x7 H39
theorem eQ9_tttthtbtntnty (K : KT) (a : TE) (H : AH) : bQ9 [1,1,1,1,0,1,0,1,1,1,1,1,0] (kQ9_ttttht K) a H = m_core_Core_Dotttthtbtntnty K (a 0) (a 3) (a 4) (a 7) H :=
  by kernel_rfl
def m_core_Core_Dotttthtbtntntnty (K : KT) (x0 x3 x4 x7 : AV) (H : AH) : Prop :=
  outP CQ H (w_nil H x0) fun v1 H1 =>
  outP CQ H1 (w_fieldAddr 1 H1 v1) fun v2 H2 =>
  outP CQ H2 (w_load none H2 v2) fun v3 H3 =>
  outP CQ H3 (w_fieldAddr 1 H3 x3) fun v4 H4 =>
  outP CQ H4 (w_load none H4 v4) fun v5 H5 =>
  outP CQ H5 (w_lookup PP 9 83 false H5 v3 v5) fun v6 H6 =>
  outP CQ H6 (w_nil H6 v6) fun v7 H7 =>
  outP CQ H7 (w_fieldAddr 3 H7 v7) fun v8 H8 =>
  outP CQ H8 (w_load none H8 v8) fun v9 H9 =>
  outP CQ H9 (w_fieldAddr 3 H9 x3) fun v10 H10 =>
  outP CQ H10 (w_load none H10 v10) fun v11 H11 =>
  outP CQ H11 (w_nil H11 x0) fun v12 H12 =>
  outP CQ H12 (w_fieldAddr 0 H12 v12) fun v13 H13 =>
  outP CQ H13 (w_load none H13 v13) fun v14 H14 =>
  outP CQ H14 (some (.enter 36 [v9, v11, v14])) fun _v15 H15 =>
  outP CQ H15 (w_nil H15 v6) fun v16 H16 =>
  outP CQ H16 (w_fieldAddr 4 H16 v16) fun v17 H17 =>
  outP CQ H17 (w_load none H17 v17) fun v18 H18 =>
  outP CQ H18 (w_fieldAddr 3 H18 x3) fun v19 H19 =>
  outP CQ H19 (w_load none H19 v19) fun v20 H20 =>
  outP CQ H20 (some (.enter 37 [v18, v20])) fun _v21 H21 =>
  outP CQ H21 (w_fieldAddr 1 H21 x3) fun v22 H22 =>
  outP CQ H22 (w_load none H22 v22) fun v23 H23 =>
  outP CQ H23 (w_fieldAddr 3 H23 x3) fun v24 H24 =>
  outP CQ H24 (w_load none H24 v24) fun v25 H25 =>
  outP CQ H25 (w_build PP 92 H25 [(0, v25), (3, (.bool true))]) fun v26 H26 =>
  outP CQ H26 (some (.enter 35 [x0, v23, v26])) fun _v27 H27 =>
  m_core_Core_Dottttt K x4 x7 H27
theorem eQ9_tttthtbtntntnty (K : KT) (a : TE) (H : AH) : bQ9 [1,1,1,1,0,1,0,1,1,1,1,1,1,1,0] (kQ9_ttttht K) a H = m_core_Core_Dotttthtbtntntnty K (a 0) (a 3) (a 4) (a 7) H :=
  by kernel_rfl
def m_core_Core_Dotttthtbtntntntnty (K : KT) (x0 x3 x4 x7 : AV) (H : AH) : Prop :=
  outP CQ H (w_nil H x0) fun v1 H1 =>
  outP CQ H1 (w_fieldAddr 2 H1 v1) fun v2 H2 =>
  outP CQ H2 (w_load none H2 v2) fun v3 H3 =>
  outP CQ H3 (w_fieldAddr 2 H3 x3) fun v4 H4 =>
  outP CQ H4 (w_load none H4 v4) fun v5 H5 =>
  outP CQ H5 (w_fieldAddr 1 H5 x3) fun v6 H6 =>
  outP CQ H6 (w_load none H6 v6) fun v7 H7 =>
  outP CQ H7 (w_mapUpdate PP 9 9 H7 v3 v5 v7) fun _v8 H8 =>
  outP CQ H8 (w_fieldAddr 1 H8 x3) fun v9 H9 =>
  outP CQ H9 (w_load none H9 v9) fun v10 H10 =>
  outP CQ H10 (w_str .eql H10 v10 (.str [])) fun v11 H11 =>
  condP v11
  (outP CQ H11 (w_nil H11 x0) fun v12 H12 =>
  outP CQ H12 (w_fieldAddr 2 H12 v12) fun v13 H13 =>
  outP CQ H13 (w_load none H13 v13) fun v14 H14 =>
  outP CQ H14 (w_fieldAddr 2 H14 x3) fun v15 H15 =>
  outP CQ H15 (w_load none H15 v15) fun v16 H16 =>
  outP CQ H16 (w_delete PP 78 H16 v14 v16) fun _v17 H17 =>
  m_core_Core_Dottttt K x4 x7 H17)
  (m_core_Core_Dottttt K x4 x7 H11)
theorem eQ9_tttthtbtntntntnty (K : KT) (a : TE) (H : AH) : bQ9 [1,1,1,1,0,1,0,1,1,1,1,1,1,1,1,1,0] (kQ9_ttttht K) a H = m_core_Core_Dotttthtbtntntntnty K (a 0) (a 3) (a 4) (a 7) H :=
  by kernel_rfl
abbrev kQ9_tttthtbtntntntntntyt (K : KT) : KP := blockP 1 (kQ9_ttttht K)
abbrev kQ9_tttthtbtntntntntntytb (K : KT) (r0 : (AV × AV × AV × AV) → AH → Prop) : KP := exP (fun (a : TE) (H : AH) => r0 (a 0, a 4, a 7, a 149) H) (kQ9_tttthtbtntntntntntyt K)
def m_core_Core_Dotttthtbtntntntntntytbl (K : KT) (r0 : (AV × AV × AV × AV) → AH → Prop) (x0 x4 x7 x149 : AV) (H : AH) : Prop :=
  outP CQ H (w_next H x149) fun v1 H1 =>
  outP CQ H1 (w_extract 0 H1 v1) fun v2 H2 =>
  condP v2
  (outP CQ H2 (w_entry H2 x149) fun v3 H3 =>
  outP CQ H3 (w_extract 1 H3 v3) fun v4 H4 =>
  outP CQ H4 (w_nil H4 v4) fun v5 H5 =>
  outP CQ H5 (w_fieldAddr 3 H5 v5) fun v6 H6 =>
  outP CQ H6 (w_load none H6 v6) fun v7 H7 =>
  outP CQ H7 (w_nil H7 x0) fun v8 H8 =>
  outP CQ H8 (w_fieldAddr 0 H8 v8) fun v9 H9 =>
  outP CQ H9 (w_load none H9 v9) fun v10 H10 =>
  outP CQ H10 (some (.enter 38 [v7, v10])) fun v11 H11 =>
  outP CQ H11 (w_int .add H11 x7 v11) fun v12 H12 =>
  r0 (x0, x4, v12, x149) H12)
  (m_core_Core_Dottttt K x4 x7 H2)
theorem eQ9_tttthtbtntntntntntytbl (K : KT) (r0 : (AV × AV × AV × AV) → AH → Prop) (a : TE) (H : AH) : bQ9 [1,1,1,1,0,1,0,1,1,1,1,1,1,1,1,1,1,1,0,1,0,0] (kQ9_tttthtbtntntntntntytb K r0) a H = m_core_Core_Dotttthtbtntntntntntytbl K r0 (a 0) (a 4) (a 7) (a 149) H :=
  by kernel_rfl
def m_core_Core_Dotttthtbtntntntntntytb (K : KT) (x0 x4 x7 x149 : AV) (H : AH) : Prop :=
  loopP (fun (r0 : (AV × AV × AV × AV) → AH → Prop) (s : (AV × AV × AV × AV)) (H : AH) => m_core_Core_Dotttthtbtntntntntntytbl K r0 s.1 s.2.1 s.2.2.1 s.2.2.2 H) (x0, x4, x7, x149) H
theorem eQ9_tttthtbtntntntntntytb (K : KT) (a : TE) (H : AH) : bQ9 [1,1,1,1,0,1,0,1,1,1,1,1,1,1,1,1,1,1,0,1,0] (kQ9_tttthtbtntntntntntyt K) a H = m_core_Core_Dotttthtbtntntntntntytb K (a 0) (a 4) (a 7) (a 149) H :=
  eLoopK (S := (AV × AV × AV × AV)) (fun a => (a 0, a 4, a 7, a 149)) (fun r0 s H => m_core_Core_Dotttthtbtntntntntntytbl K r0 s.1 s.2.1 s.2.2.1 s.2.2.2 H) (by kernel_rfl) (fun r => by kernel_rfl) (eQ9_tttthtbtntntntntntytbl K)
theorem eQ9_tttthtbtntntntntntyt (K : KT) (a : TE) (H : AH) : bQ9 [1,1,1,1,0,1,0,1,1,1,1,1,1,1,1,1,1,1,0,1] (kQ9_ttttht K) a H = m_core_Core_Dotttthtbtntntntntntytb K (a 0) (a 4) (a 7) (a 149) H :=
  eBlockK 1 (by kernel_rfl) (by kernel_rfl) (eQ9_tttthtbtntntntntntytb K a H)
def m_core_Core_Dotttthtbtntntntntnty (K : KT) (x0 x4 x7 : AV) (H : AH) : Prop :=
  outP CQ H (w_nil H x0) fun v1 H1 =>
  outP CQ H1 (w_fieldAddr 1 H1 v1) fun v2 H2 =>
  outP CQ H2 (w_load none H2 v2) fun v3 H3 =>
  outP CQ H3 (w_range (some (9, 83)) H3 v3 none) fun v4 H4 =>
  m_core_Core_Dotttthtbtntntntntntytb K x0 x4 x7 v4 H4
theorem eQ9_tttthtbtntntntntnty (K : KT) (a : TE) (H : AH) : bQ9 [1,1,1,1,0,1,0,1,1,1,1,1,1,1,1,1,1,1,0] (kQ9_ttttht K) a H = m_core_Core_Dotttthtbtntntntntnty K (a 0) (a 4) (a 7) H :=
  eSeq (ca := subC (bodyC PP 9) [1,1,1,1,0,1,0,1,1,1,1,1,1,1,1,1,1,1,0,0]) (by kernel_rfl) (eQ9_tttthtbtntntntntntyt K) (by kernel_rfl)
def m_core_Core_Dotttthtbtntntntntntn (K : KT) (x0 x3 x4 x7 : AV) (H : AH) : Prop :=
  outP CQ H (w_load (some 11) H x3) fun v1 H1 =>
  outP CQ H1 (some (.enter 39 [x0, v1])) fun _v2 H2 =>
  m_core_Core_Dottttt K x4 x7 H2
theorem eQ9_tttthtbtntntntntntn (K : KT) (a : TE) (H : AH) : bQ9 [1,1,1,1,0,1,0,1,1,1,1,1,1,1,1,1,1,1,1] (kQ9_ttttht K) a H = m_core_Core_Dotttthtbtntntntntntn K (a 0) (a 3) (a 4) (a 7) H :=
  by kernel_rfl
def m_core_Core_Dotttthtbtntntntntnt (K : KT) (x0 x3 x4 x7 x143 : AV) (H : AH) : Prop :=
  condP x143 (m_core_Core_Dotttthtbtntntntntnty K x0 x4 x7 H) (m_core_Core_Dotttthtbtntntntntntn K x0 x3 x4 x7 H)
theorem eQ9_tttthtbtntntntntnt (K : KT) (a : TE) (H : AH) : bQ9 [1,1,1,1,0,1,0,1,1,1,1,1,1,1,1,1,1,1] (kQ9_ttttht K) a H = m_core_Core_Dotttthtbtntntntntnt K (a 0) (a 3) (a 4) (a 7) (a 143) H :=
  eCond (o := .tmp 143) (by kernel_rfl) (eQ9_tttthtbtntntntntnty K a H) (eQ9_tttthtbtntntntntntn K a H)
def m_core_Core_Dotttthtbtntntntntn (K : KT) (x0 x3 x4 x7 x27 : AV) (H : AH) : Prop :=
  outP CQ H (w_int .eql H x27 (.int .i64 11)) fun v1 H1 =>
  m_core_Core_Dotttthtbtntntntntnt K x0 x3 x4 x7 v1 H1
theorem eQ9_tttthtbtntntntntn (K : KT) (a : TE) (H : AH) : bQ9 [1,1,1,1,0,1,0,1,1,1,1,1,1,1,1,1,1] (kQ9_ttttht K) a H = m_core_Core_Dotttthtbtntntntntn K (a 0) (a 3) (a 4) (a 7) (a 27) H :=
  eSeq (ca := subC (bodyC PP 9) [1,1,1,1,0,1,0,1,1,1,1,1,1,1,1,1,1,0]) (by kernel_rfl) (eQ9_tttthtbtntntntntnt K) (by kernel_rfl)
def m_core_Core_Dotttthtbtntntntnt (K : KT) (x0 x3 x4 x7 x27 x124 : AV) (H : AH) : Prop :=
  condP x124 (m_core_Core_Dotttthtbtntntntnty K x0 x3 x4 x7 H) (m_core_Core_Dotttthtbtntntntntn K x0 x3 x4 x7 x27 H)
theorem eQ9_tttthtbtntntntnt (K : KT) (a : TE) (H : AH) : bQ9 [1,1,1,1,0,1,0,1,1,1,1,1,1,1,1,1] (kQ9_ttttht K) a H = m_core_Core_Dotttthtbtntntntnt K (a 0) (a 3) (a 4) (a 7) (a 27) (a 124) H :=
  eCond (o := .tmp 124) (by kernel_rfl) (eQ9_tttthtbtntntntnty K a H) (eQ9_tttthtbtntntntntn K a H)
def m_core_Core_Dotttthtbtntntntn (K : KT) (x0 x3 x4 x7 x27 : AV) (H : AH) : Prop :=
  outP CQ H (w_int .eql H x27 (.int .i64 5)) fun v1 H1 =>
  m_core_Core_Dotttthtbtntntntnt K x0 x3 x4 x7 x27 v1 H1
theorem eQ9_tttthtbtntntntn (K : KT) (a : TE) (H : AH) : bQ9 [1,1,1,1,0,1,0,1,1,1,1,1,1,1,1] (kQ9_ttttht K) a H = m_core_Core_Dotttthtbtntntntn K (a 0) (a 3) (a 4) (a 7) (a 27) H :=
  eSeq (ca := subC (bodyC PP 9) [1,1,1,1,0,1,0,1,1,1,1,1,1,1,1,0]) (by kernel_rfl) (eQ9_tttthtbtntntntnt K) (by kernel_rfl)
def m_core_Core_Dotttthtbtntntnt (K : KT) (x0 x3 x4 x7 x27 x90 : AV) (H : AH) : Prop :=
  condP x90 (m_core_Core_Dotttthtbtntntnty K x0 x3 x4 x7 H) (m_core_Core_Dotttthtbtntntntn K x0 x3 x4 x7 x27 H)
theorem eQ9_tttthtbtntntnt (K : KT) (a : TE) (H : AH) : bQ9 [1,1,1,1,0,1,0,1,1,1,1,1,1,1] (kQ9_ttttht K) a H = m_core_Core_Dotttthtbtntntnt K (a 0) (a 3) (a 4) (a 7) (a 27) (a 90) H :=
  eCond (o := .tmp 90) (by kernel_rfl) (eQ9_tttthtbtntntnty K a H) (eQ9_tttthtbtntntntn K a H)
def m_core_Core_Dotttthtbtntntn (K : KT) (x0 x3 x4 x7 x27 : AV) (H : AH) : Prop :=
  outP CQ H (w_int .eql H x27 (.int .i64 4)) fun v1 H1 =>
  m_core_Core_Dotttthtbtntntnt K x0 x3 x4 x7 x27 v1 H1
theorem eQ9_tttthtbtntntn (K : KT) (a : TE) (H : AH) : bQ9 [1,1,1,1,0,1,0,1,1,1,1,1,1] (kQ9_ttttht K) a H = m_core_Core_Dotttthtbtntntn K (a 0) (a 3) (a 4) (a 7) (a 27) H :=
  eSeq (ca := subC (bodyC PP 9) [1,1,1,1,0,1,0,1,1,1,1,1,1,0]) (by kernel_rfl) (eQ9_tttthtbtntntnt K) (by kernel_rfl)
def m_core_Core_Dotttthtbtntnt (K : KT) (x0 x3 x4 x7 x27 x44 : AV) (H : AH) : Prop :=
  condP x44 (m_core_Core_Dotttthtbtntnty K x0 x3 x4 x7 H) (m_core_Core_Dotttthtbtntntn K x0 x3 x4 x7 x27 H)
theorem eQ9_tttthtbtntnt (K : KT) (a : TE) (H : AH) : bQ9 [1,1,1,1,0,1,0,1,1,1,1,1] (kQ9_ttttht K) a H = m_core_Core_Dotttthtbtntnt K (a 0) (a 3) (a 4) (a 7) (a 27) (a 44) H :=
  eCond (o := .tmp 44) (by kernel_rfl) (eQ9_tttthtbtntnty K a H) (eQ9_tttthtbtntntn K a H)
def m_core_Core_Dotttthtbtntn (K : KT) (x0 x3 x4 x7 x27 : AV) (H : AH) : Prop :=
  outP CQ H (w_int .eql H x27 (.int .i64 3)) fun v1 H1 =>
  m_core_Core_Dotttthtbtntnt K x0 x3 x4 x7 x27 v1 H1
theorem eQ9_tttthtbtntn (K : KT) (a : TE) (H : AH) : bQ9 [1,1,1,1,0,1,0,1,1,1,1] (kQ9_ttttht K) a H = m_core_Core_Dotttthtbtntn K (a 0) (a 3) (a 4) (a 7) (a 27) H :=
  eSeq (ca := subC (bodyC PP 9) [1,1,1,1,0,1,0,1,1,1,1,0]) (by kernel_rfl) (eQ9_tttthtbtntnt K) (by kernel_rfl)
def m_core_Core_Dotttthtbtnt (K : KT) (x0 x3 x4 x7 x27 x36 : AV) (H : AH) : Prop :=
  condP x36 (m_core_Core_Dotttthtbtnty K x0 x3 x4 x7 H) (m_core_Core_Dotttthtbtntn K x0 x3 x4 x7 x27 H)
theorem eQ9_tttthtbtnt (K : KT) (a : TE) (H : AH) : bQ9 [1,1,1,1,0,1,0,1,1,1] (kQ9_ttttht K) a H = m_core_Core_Dotttthtbtnt K (a 0) (a 3) (a 4) (a 7) (a 27) (a 36) H :=
  eCond (o := .tmp 36) (by kernel_rfl) (eQ9_tttthtbtnty K a H) (eQ9_tttthtbtntn K a H)
def m_core_Core_Dotttthtbtn (K : KT) (x0 x3 x4 x7 x27 : AV) (H : AH) : Prop :=
  outP CQ H (w_int .eql H x27 (.int .i64 2)) fun v1 H1 =>
  m_core_Core_Dotttthtbtnt K x0 x3 x4 x7 x27 v1 H1
theorem eQ9_tttthtbtn (K : KT) (a : TE) (H : AH) : bQ9 [1,1,1,1,0,1,0,1,1] (kQ9_ttttht K) a H = m_core_Core_Dotttthtbtn K (a 0) (a 3) (a 4) (a 7) (a 27) H :=
  eSeq (ca := subC (bodyC PP 9) [1,1,1,1,0,1,0,1,1,0]) (by kernel_rfl) (eQ9_tttthtbtnt K) (by kernel_rfl)
def m_core_Core_Dotttthtbt (K : KT) (x0 x3 x4 x7 x27 x31 : AV) (H : AH) : Prop :=
  condP x31 (m_core_Core_Dotttthtbty K x0 x3 x4 x7 H) (m_core_Core_Dotttthtbtn K x0 x3 x4 x7 x27 H)
theorem eQ9_tttthtbt (K : KT) (a : TE) (H : AH) : bQ9 [1,1,1,1,0,1,0,1] (kQ9_ttttht K) a H = m_core_Core_Dotttthtbt K (a 0) (a 3) (a 4) (a 7) (a 27) (a 31) H :=
  eCond (o := .tmp 31) (by kernel_rfl) (eQ9_tttthtbty K a H) (eQ9_tttthtbtn K a H)
def m_core_Core_Dotttthtb (K : KT) (x0 x3 x4 x7 x27 : AV) (H : AH) : Prop :=
  outP CQ H (w_int .eql H x27 (.int .i64 1)) fun v1 H1 =>
  m_core_Core_Dotttthtbt K x0 x3 x4 x7 x27 v1 H1
theorem eQ9_tttthtb (K : KT) (a : TE) (H : AH) : bQ9 [1,1,1,1,0,1,0] (kQ9_ttttht K) a H = m_core_Core_Dotttthtb K (a 0) (a 3) (a 4) (a 7) (a 27) H :=
  eSeq (ca := subC (bodyC PP 9) [1,1,1,1,0,1,0,0]) (by kernel_rfl) (eQ9_tttthtbt K) (by kernel_rfl)
theorem eQ9_ttttht (K : KT) (a : TE) (H : AH) : bQ9 [1,1,1,1,0,1] (kQ9_tttt K) a H = m_core_Core_Dotttthtb K (a 0) (a 3) (a 4) (a 7) (a 27) H :=
  eBlockK 0 (by kernel_rfl) (by kernel_rfl) (eQ9_tttthtb K a H)
def m_core_Core_Dotttth (K : KT) (x0 x3 x4 x7 : AV) (H : AH) : Prop :=
  outP CQ H (w_fieldAddr 0 H x3) fun v1 H1 =>
  outP CQ H1 (w_load none H1 v1) fun v2 H2 =>
  m_core_Core_Dotttthtb K x0 x3 x4 x7 v2 H2
theorem eQ9_tttth (K : KT) (a : TE) (H : AH) : bQ9 [1,1,1,1,0] (kQ9_tttt K) a H = m_core_Core_Dotttth K (a 0) (a 3) (a 4) (a 7) H :=
  eSeq (ca := subC (bodyC PP 9) [1,1,1,1,0,0]) (by kernel_rfl) (eQ9_ttttht K) (by kernel_rfl)
theorem eQ9_tttt (K : KT) (a : TE) (H : AH) : bQ9 [1,1,1,1] (kQ9 K) a H = m_core_Core_Dotttth K (a 0) (a 3) (a 4) (a 7) H :=
  eSeqK (by kernel_rfl) (eQ9_ttttt K) (by kernel_rfl) (eQ9_tttth K a H)
def m_core_Core_Dottt (K : KT) (x0 x3 x4 : AV) (H : AH) : Prop :=
  m_core_Core_Dotttth K x0 x3 x4 (.int .i64 0) H
theorem eQ9_ttt (K : KT) (a : TE) (H : AH) : bQ9 [1,1,1] (kQ9 K) a H = m_core_Core_Dottt K (a 0) (a 3) (a 4) H :=
  eSeq (ca := subC (bodyC PP 9) [1,1,1,0]) (by kernel_rfl) (eQ9_tttt K) (by kernel_rfl)
def m_core_Core_Dott (K : KT) (x0 x3 x4 : AV) (H : AH) : Prop :=
  outP CQ H (w_nil H x0) fun v1 H1 =>
  outP CQ H1 (w_fieldAddr 0 H1 v1) fun v2 H2 =>
  outP CQ H2 (w_load none H2 v2) fun v3 H3 =>
  outP CQ H3 (w_int .add H3 v3 (.int .i64 1)) fun v4 H4 =>
  outP CQ H4 (w_nil H4 x0) fun v5 H5 =>
  outP CQ H5 (w_fieldAddr 0 H5 v5) fun v6 H6 =>
  outP CQ H6 (w_store 1 H6 v6 v4) fun _v7 H7 =>
  m_core_Core_Dottt K x0 x3 x4 H7
theorem eQ9_tt (K : KT) (a : TE) (H : AH) : bQ9 [1,1] (kQ9 K) a H = m_core_Core_Dott K (a 0) (a 3) (a 4) H :=
  eSeq (ca := subC (bodyC PP 9) [1,1,0]) (by kernel_rfl) (eQ9_ttt K) (by kernel_rfl)
def m_core_Core_Dot (K : KT) (x0 x3 x4 : AV) (H : AH) : Prop :=
  outP CQ H (w_load (some 11) H x3) fun v1 H1 =>
  outP CQ H1 (some (.enter 17 [x0, v1])) fun v2 H2 =>
  outP CQ H2 (w_eq PP .neq 36 false true H2 v2 .nilIface) fun v3 H3 =>
  condP v3
  (outP CQ H3 (w_build PP 34 H3 []) fun v4 H4 =>
  outP CQ H4 (w_store 20 H4 x4 v4) fun _v5 H5 =>
  endP (resR (partF (some (some 20))) H5 x4 (resT v2 (some []))) K H5)
  (m_core_Core_Dott K x0 x3 x4 H3)
theorem eQ9_t (K : KT) (a : TE) (H : AH) : bQ9 [1] (kQ9 K) a H = m_core_Core_Dot K (a 0) (a 3) (a 4) H :=
  eSeq (ca := subC (bodyC PP 9) [1,0]) (by kernel_rfl) (eQ9_tt K) (by kernel_rfl)
def m_core_Core_Do (K : KT) (x0 x1 : AV) (H : AH) : Prop :=
  outP CQ H (w_box 41 H x1 none) fun v1 H1 =>
  outP CQ H1 (w_alloc 34 [(.int .i64 0), (.slice none 0 0 true), (.str []), (.int .i64 0), (.bool false), (.slice none 0 0 true), (.int .i64 0), (.int .i64 0), (.bool false), (.str []), (.int .i64 0), (.int .i64 0), (.int .i64 0), (.int .i64 0), (.int .i64 0), (.int .i64 0), (.int .i64 0), (.int .i64 0), (.int .i64 0), (.int .i64 0)] H1 none) fun v2 H2 =>
  m_core_Core_Dot K x0 v1 v2 H2
theorem eQ9_ (K : KT) (a : TE) (H : AH) : bQ9 [] (kQ9 K) a H = m_core_Core_Do K (a 0) (a 1) H :=
  eSeq (ca := subC (bodyC PP 9) [0]) (by kernel_rfl) (eQ9_t K) (by kernel_rfl)
theorem m_core_Core_Do_ok (x0 x1 : AV) (H : AH) (K : KT) (h : m_core_Core_Do K x0 x1 H) : CQ.call 9 [x0, x1] H K :=
  have h1 : funP PP CQ 9 [x0, x1] H K = bQ9 [] (kQ9 K) (argE [x0, x1]) H := by kernel_rfl
  have h2 : m_core_Core_Do K (argE [x0, x1] 0) (argE [x0, x1] 1) H = m_core_Core_Do K x0 x1 H := by kernel_rfl
  funP_ok (P := PP) (by kernel_rfl) (by kernel_rfl) ((h1.trans ((eQ9_ K (argE [x0, x1]) H).trans h2)).mpr h)

/-! 17: (*fieldfare/core.Core).Can -/
abbrev bQ17 (p : List Nat) (k : KP) : KE := codeP PP CQ (subC (bodyC PP 17) p) k
abbrev kQ17 (K : KT) : KP := finP PP (resC PP 17) K
def m_core_Core_Can (K : KT) (x0 x1 : AV) (H : AH) : Prop :=
  outP CQ H (w_box 41 H x1 none) fun v1 H1 =>
  outP CQ H1 (w_eq PP .eql 24 false true H1 x0 (.ptr none)) fun v2 H2 =>
  condP v2
  (outP CQ H2 (some (.val (.iface 44 (.int .i64 9)) H2)) fun v3 H3 =>
  outP CQ H3 (some (.enter 43 [v3])) fun v4 H4 =>
  K v4 H4)
  (outP CQ H2 (w_load (some 11) H2 v1) fun v5 H5 =>
  outP CQ H5 (some (.enter 49 [x0, v5])) fun v6 H6 =>
  outP CQ H6 (some (.val (.iface 44 v6) H6)) fun v7 H7 =>
  outP CQ H7 (some (.enter 43 [v7])) fun v8 H8 =>
  K v8 H8)
theorem eQ17_ (K : KT) (a : TE) (H : AH) : bQ17 [] (kQ17 K) a H = m_core_Core_Can K (a 0) (a 1) H :=
  by kernel_rfl
theorem m_core_Core_Can_ok (x0 x1 : AV) (H : AH) (K : KT) (h : m_core_Core_Can K x0 x1 H) : CQ.call 17 [x0, x1] H K :=
  have h1 : funP PP CQ 17 [x0, x1] H K = bQ17 [] (kQ17 K) (argE [x0, x1]) H := by kernel_rfl
  have h2 : m_core_Core_Can K (argE [x0, x1] 0) (argE [x0, x1] 1) H = m_core_Core_Can K x0 x1 H := by kernel_rfl
  funP_ok (P := PP) (by kernel_rfl) (by kernel_rfl) ((h1.trans ((eQ17_ K (argE [x0, x1]) H).trans h2)).mpr h)

/-! 49: (*fieldfare/core.Core).can -/
abbrev bQ49 (p : List Nat) (k : KP) : KE := codeP PP CQ (subC (bodyC PP 49) p) k
abbrev kQ49 (K : KT) : KP := finP PP (resC PP 49) K
def m_core_Core_can (K : KT) (x0 x1 : AV) (H : AH) : Prop :=
  outP CQ H (w_box 41 H x1 none) fun v1 H1 =>
  outP CQ H1 (w_fieldAddr 0 H1 v1) fun v2 H2 =>
  outP CQ H2 (w_load none H2 v2) fun v3 H3 =>
  outP CQ H3 (w_int .eql H3 v3 (.int .i64 1)) fun v4 H4 =>
  condP v4
  (outP CQ H4 (w_load (some 11) H4 v1) fun v5 H5 =>
  outP CQ H5 (some (.enter 112 [x0, v5])) fun v6 H6 =>
  K v6 H6)
  (outP CQ H4 (w_int .eql H4 v3 (.int .i64 2)) fun v7 H7 =>
  condP v7
  (outP CQ H7 (w_load (some 11) H7 v1) fun v8 H8 =>
  outP CQ H8 (some (.enter 113 [x0, v8])) fun v9 H9 =>
  K v9 H9)
  (outP CQ H7 (w_int .eql H7 v3 (.int .i64 3)) fun v10 H10 =>
  condP v10
  (outP CQ H10 (w_load (some 11) H10 v1) fun v11 H11 =>
  outP CQ H11 (some (.enter 114 [x0, v11])) fun v12 H12 =>
  K v12 H12)
  (outP CQ H10 (w_int .eql H10 v3 (.int .i64 4)) fun v13 H13 =>
  condP v13
  (outP CQ H13 (w_load (some 11) H13 v1) fun v14 H14 =>
  outP CQ H14 (some (.enter 115 [x0, v14])) fun v15 H15 =>
  K v15 H15)
  (outP CQ H13 (w_int .eql H13 v3 (.int .i64 5)) fun v16 H16 =>
  condP v16
  (outP CQ H16 (w_load (some 11) H16 v1) fun v17 H17 =>
  outP CQ H17 (some (.enter 116 [x0, v17])) fun v18 H18 =>
  K v18 H18)
  (outP CQ H16 (w_int .eql H16 v3 (.int .i64 6)) fun v19 H19 =>
  condP v19
  (outP CQ H19 (w_load (some 11) H19 v1) fun v20 H20 =>
  outP CQ H20 (some (.enter 117 [x0, v20])) fun v21 H21 =>
  K v21 H21)
  (outP CQ H19 (w_fieldAddr 0 H19 v1) fun v22 H22 =>
  outP CQ H22 (w_load none H22 v22) fun v23 H23 =>
  outP CQ H23 (some (.enter 118 [x0, v23])) fun v24 H24 =>
  K v24 H24))))))
theorem eQ49_ (K : KT) (a : TE) (H : AH) : bQ49 [] (kQ49 K) a H = m_core_Core_can K (a 0) (a 1) H :=
  by kernel_rfl
theorem m_core_Core_can_ok (x0 x1 : AV) (H : AH) (K : KT) (h : m_core_Core_can K x0 x1 H) : CQ.call 49 [x0, x1] H K :=
  have h1 : funP PP CQ 49 [x0, x1] H K = bQ49 [] (kQ49 K) (argE [x0, x1]) H := by kernel_rfl
  have h2 : m_core_Core_can K (argE [x0, x1] 0) (argE [x0, x1] 1) H = m_core_Core_can K x0 x1 H := by kernel_rfl
  funP_ok (P := PP) (by kernel_rfl) (by kernel_rfl) ((h1.trans ((eQ49_ K (argE [x0, x1]) H).trans h2)).mpr h)

/-! 114: (*fieldfare/core.Core).put -/
abbrev bQ114 (p : List Nat) (k : KP) : KE := codeP PP CQ (subC (bodyC PP 114) p) k
abbrev kQ114 (K : KT) : KP := finP PP (resC PP 114) K
def m_core_Core_put (K : KT) (x0 x1 : AV) (H : AH) : Prop :=
  outP CQ H (w_box 41 H x1 none) fun v1 H1 =>
  outP CQ H1 (w_nil H1 x0) fun v2 H2 =>
  outP CQ H2 (w_fieldAddr 1 H2 v2) fun v3 H3 =>
  outP CQ H3 (w_load none H3 v3) fun v4 H4 =>
  outP CQ H4 (w_fieldAddr 1 H4 v1) fun v5 H5 =>
  outP CQ H5 (w_load none H5 v5) fun v6 H6 =>
  outP CQ H6 (w_lookup PP 9 83 false H6 v4 v6) fun v7 H7 =>
  outP CQ H7 (w_eq PP .eql 83 false true H7 v7 (.ptr none)) fun v8 H8 =>
  condP v8
  (K (.int .i64 3) H8)
  (outP CQ H8 (w_fieldAddr 3 H8 v1) fun v9 H9 =>
  outP CQ H9 (w_load none H9 v9) fun v10 H10 =>
  outP CQ H10 (w_int .lss H10 v10 (.int .i64 1)) fun v11 H11 =>
  guardP (boolIs false v11) H11 (outP CQ H11 (w_fieldAddr 3 H11 v1)) fun v12 H12 =>
  guardP (boolIs false v11) H12 (outP CQ H12 (w_load none H12 v12)) fun v13 H13 =>
  guardP (boolIs false v11) H13 (outP CQ H13 (w_int .gtr H13 v13 (.int .i64 1000))) fun v14 H14 =>
  outP CQ H14 (w_pick H14 v11 (.bool true) v14) fun v15 H15 =>
  condP v15
  (K (.int .i64 2) H15)
  (outP CQ H15 (w_fieldAddr 7 H15 v1) fun v16 H16 =>
  outP CQ H16 (w_load none H16 v16) fun v17 H17 =>
  outP CQ H17 (w_nil H17 v7) fun v18 H18 =>
  outP CQ H18 (w_fieldAddr 1 H18 v18) fun v19 H19 =>
  outP CQ H19 (w_load none H19 v19) fun v20 H20 =>
  outP CQ H20 (some (.enter 87 [v17, v20])) fun v21 H21 =>
  outP CQ H21 (w_un .not H21 v21) fun v22 H22 =>
  condP v22
  (K (.int .i64 1) H22)
  (outP CQ H22 (w_fieldAddr 8 H22 v1) fun v23 H23 =>
  outP CQ H23 (w_load none H23 v23) fun v24 H24 =>
  outP CQ H24 (w_len PP 9 H24 v24) fun v25 H25 =>
  outP CQ H25 (w_int .gtr H25 v25 (.int .i64 40)) fun v26 H26 =>
  condP v26
  (K (.int .i64 11) H26)
  (outP CQ H26 (w_fieldAddr 1 H26 v1) fun v27 H27 =>
  outP CQ H27 (w_load none H27 v27) fun v28 H28 =>
  outP CQ H28 (some (.enter 200 [x0, v28])) fun v29 H29 =>
  condP v29
  (K (.int .i64 7) H29)
  (outP CQ (H29.more 1) (w_nil (H29.more 1) v7) fun v30 H30 =>
  outP CQ H30 (w_fieldAddr 3 H30 v30) fun v31 H31 =>
  outP CQ H31 (w_load none H31 v31) fun v32 H32 =>
  outP CQ H32 (w_fieldAddr 3 H32 v1) fun v33 H33 =>
  outP CQ H33 (w_load none H33 v33) fun v34 H34 =>
  outP CQ H34 (some (.enter 46 [v32, v34])) fun v35 H35 =>
  outP CQ H35 (w_extract 0 H35 v35) fun v36 H36 =>
  outP CQ H36 (w_extract 1 H36 v35) fun v37 H37 =>
  outP CQ H37 (w_alloc 29 [(.int .i64 0), (.slice none 0 0 true), (.str []), (.int .i64 0), (.bool false)] H37 (some (Nat.add H29.next 0))) fun v38 H38 =>
  outP CQ H38 (w_store 5 H38 v38 v36) fun _v39 H39 =>
  outP CQ H39 (w_un .not H39 v37) fun v40 H40 =>
  guardP (boolIs true v40) H40 (outP CQ H40 (some (.val x0 H40))) fun v41 H41 =>
  guardP (boolIs true v40) H41 (outP CQ H41 (w_fieldAddr 1 H41 v1)) fun v42 H42 =>
  guardP (boolIs true v40) H42 (outP CQ H42 (w_load none H42 v42)) fun v43 H43 =>
  guardP (boolIs true v40) H43 (outP CQ H43 (some (.enter 201 [v41, v43]))) fun v44 H44 =>
  guardP (boolIs true v40) H44 (outP CQ H44 (some (.val x0 H44))) fun v45 H45 =>
  guardP (boolIs true v40) H45 (outP CQ H45 (some (.enter 19 [v45]))) fun v46 H46 =>
  guardP (boolIs true v40) H46 (outP CQ H46 (w_int .gtr H46 v44 v46)) fun v47 H47 =>
  outP CQ H47 (w_pick H47 v40 v47 (.bool false)) fun v48 H48 =>
  condP v48
  (K (.int .i64 6) H48)
  (K (.int .i64 0) H48))))))
theorem eQ114_ (K : KT) (a : TE) (H : AH) : bQ114 [] (kQ114 K) a H = m_core_Core_put K (a 0) (a 1) H :=
  by kernel_rfl
theorem m_core_Core_put_ok (x0 x1 : AV) (H : AH) (K : KT) (h : m_core_Core_put K x0 x1 H) : CQ.call 114 [x0, x1] H K :=
  have h1 : funP PP CQ 114 [x0, x1] H K = bQ114 [] (kQ114 K) (argE [x0, x1]) H := by kernel_rfl
  have h2 : m_core_Core_put K (argE [x0, x1] 0) (argE [x0, x1] 1) H = m_core_Core_put K x0 x1 H := by kernel_rfl
  funP_ok (P := PP) (by kernel_rfl) (by kernel_rfl) ((h1.trans ((eQ114_ K (argE [x0, x1]) H).trans h2)).mpr h)

/-! 112: (*fieldfare/core.Core).create -/
abbrev bQ112 (p : List Nat) (k : KP) : KE := codeP PP CQ (subC (bodyC PP 112) p) k
abbrev kQ112 (K : KT) : KP := finP PP (resC PP 112) K
def m_core_Core_create (K : KT) (x0 x1 : AV) (H : AH) : Prop :=
  outP CQ H (w_box 41 H x1 none) fun v1 H1 =>
  outP CQ H1 (w_nil H1 x0) fun v2 H2 =>
  outP CQ H2 (w_fieldAddr 2 H2 v2) fun v3 H3 =>
  outP CQ H3 (w_load none H3 v3) fun v4 H4 =>
  outP CQ H4 (w_fieldAddr 1 H4 v1) fun v5 H5 =>
  outP CQ H5 (w_load none H5 v5) fun v6 H6 =>
  outP CQ H6 (w_lookup PP 9 9 true H6 v4 v6) fun v7 H7 =>
  outP CQ H7 (w_extract 0 H7 v7) fun _v8 H8 =>
  outP CQ H8 (w_extract 1 H8 v7) fun v9 H9 =>
  outP CQ H9 (w_fieldAddr 1 H9 v1) fun v10 H10 =>
  outP CQ H10 (w_load none H10 v10) fun v11 H11 =>
  outP CQ H11 (some (.enter 198 [v11])) fun v12 H12 =>
  outP CQ H12 (w_un .not H12 v12) fun v13 H13 =>
  condP v13
  (K (.int .i64 1) H13)
  (outP CQ H13 (w_nil H13 x0) fun v14 H14 =>
  outP CQ H14 (w_fieldAddr 1 H14 v14) fun v15 H15 =>
  outP CQ H15 (w_load none H15 v15) fun v16 H16 =>
  outP CQ H16 (w_fieldAddr 1 H16 v1) fun v17 H17 =>
  outP CQ H17 (w_load none H17 v17) fun v18 H18 =>
  outP CQ H18 (w_lookup PP 9 83 false H18 v16 v18) fun v19 H19 =>
  outP CQ H19 (w_eq PP .neq 83 false true H19 v19 (.ptr none)) fun v20 H20 =>
  guardP (boolIs false v20) H20 (outP CQ H20 (some (.val v9 H20))) fun v21 H21 =>
  outP CQ H21 (w_pick H21 v20 (.bool true) v21) fun v22 H22 =>
  condP v22
  (K (.int .i64 4) H22)
  (outP CQ H22 (w_fieldAddr 4 H22 v1) fun v23 H23 =>
  outP CQ H23 (w_load none H23 v23) fun v24 H24 =>
  outP CQ H24 (w_int .lss H24 v24 (.int .i64 1)) fun v25 H25 =>
  guardP (boolIs false v25) H25 (outP CQ H25 (w_fieldAddr 4 H25 v1)) fun v26 H26 =>
  guardP (boolIs false v25) H26 (outP CQ H26 (w_load none H26 v26)) fun v27 H27 =>
  guardP (boolIs false v25) H27 (outP CQ H27 (w_int .gtr H27 v27 (.int .i64 8))) fun v28 H28 =>
  outP CQ H28 (w_pick H28 v25 (.bool true) v28) fun v29 H29 =>
  condP v29
  (K (.int .i64 2) H29)
  (outP CQ H29 (w_fieldAddr 5 H29 v1) fun v30 H30 =>
  outP CQ H30 (w_load none H30 v30) fun v31 H31 =>
  outP CQ H31 (some (.enter 199 [v31])) fun v32 H32 =>
  outP CQ H32 (w_un .not H32 v32) fun v33 H33 =>
  guardP (boolIs false v33) H33 (outP CQ H33 (w_fieldAddr 6 H33 v1)) fun v34 H34 =>
  guardP (boolIs false v33) H34 (outP CQ H34 (w_load none H34 v34)) fun v35 H35 =>
  guardP (boolIs false v33) H35 (outP CQ H35 (w_int .lss H35 v35 (.int .i64 1))) fun v36 H36 =>
  outP CQ H36 (w_pick H36 v33 (.bool true) v36) fun v37 H37 =>
  guardP (boolIs false v37) H37 (outP CQ H37 (w_fieldAddr 6 H37 v1)) fun v38 H38 =>
  guardP (boolIs false v37) H38 (outP CQ H38 (w_load none H38 v38)) fun v39 H39 =>
  guardP (boolIs false v37) H39 (outP CQ H39 (w_int .gtr H39 v39 (.int .i64 4))) fun v40 H40 =>
  outP CQ H40 (w_pick H40 v37 (.bool true) v40) fun v41 H41 =>
  condP v41
  (K (.int .i64 12) H41)
  (outP CQ H41 (w_nil H41 x0) fun v42 H42 =>
  outP CQ H42 (w_fieldAddr 1 H42 v42) fun v43 H43 =>
  outP CQ H43 (w_load none H43 v43) fun v44 H44 =>
  outP CQ H44 (w_len PP 77 H44 v44) fun v45 H45 =>
  outP CQ H45 (w_int .geq H45 v45 (.int .i64 4)) fun v46 H46 =>
  condP v46
  (K (.int .i64 5) H46)
  (outP CQ H46 (w_fieldAddr 6 H46 v1) fun v47 H47 =>
  outP CQ H47 (w_load none H47 v47) fun v48 H48 =>
  outP CQ H48 (some (.enter 123 [v48, (.int .i64 0)])) fun v49 H49 =>
  outP CQ H49 (some (.enter 19 [x0])) fun v50 H50 =>
  outP CQ H50 (w_int .gtr H50 v49 v50) fun v51 H51 =>
  condP v51
  (K (.int .i64 6) H51)
  (K (.int .i64 0) H51))))))
theorem eQ112_ (K : KT) (a : TE) (H : AH) : bQ112 [] (kQ112 K) a H = m_core_Core_create K (a 0) (a 1) H :=
  by kernel_rfl
theorem m_core_Core_create_ok (x0 x1 : AV) (H : AH) (K : KT) (h : m_core_Core_create K x0 x1 H) : CQ.call 112 [x0, x1] H K :=
  have h1 : funP PP CQ 112 [x0, x1] H K = bQ112 [] (kQ112 K) (argE [x0, x1]) H := by kernel_rfl
  have h2 : m_core_Core_create K (argE [x0, x1] 0) (argE [x0, x1] 1) H = m_core_Core_create K x0 x1 H := by kernel_rfl
  funP_ok (P := PP) (by kernel_rfl) (by kernel_rfl) ((h1.trans ((eQ112_ K (argE [x0, x1]) H).trans h2)).mpr h)

/-! 32: (*fieldfare/core.Core).made -/
abbrev bQ32 (p : List Nat) (k : KP) : KE := codeP PP CQ (subC (bodyC PP 32) p) k
abbrev kQ32 (K : KT) : KP := finP PP (resC PP 32) K
abbrev kQ32_tttt (K : KT) : KP := exP (bQ32 [1,1,1,1,1] (kQ32 K)) (kQ32 K)
abbrev kQ32_tttth (K : KT) : KP := blockP 2 (kQ32_tttt K)
abbrev kQ32_tttthb (K : KT) (r0 : (AV × AV × AV × AV) → AH → Prop) : KP := exP (fun (a : TE) (H : AH) => r0 (a 0, a 3, a 4, a 7) H) (kQ32_tttth K)
def m_core_Core_madetttthbl (K : KT) (r0 : (AV × AV × AV × AV) → AH → Prop) (x0 x3 x4 x7 : AV) (H : AH) : Prop :=
  outP CQ H (w_lookup PP 3 4 false H x4 x7) fun v1 H1 =>
  condP v1
  (outP CQ H1 (w_int .add H1 x7 (.int .i64 1)) fun v2 H2 =>
  r0 (x0, x3, x4, v2) H2)
  (outP CQ H1 (w_fieldAddr 6 H1 x3) fun v3 H3 =>
  outP CQ H3 (w_load none H3 v3) fun v4 H4 =>
  outP CQ H4 (w_fieldAddr 5 H4 x3) fun v5 H5 =>
  outP CQ H5 (w_load none H5 v5) fun v6 H6 =>
  outP CQ H6 (w_fieldAddr 4 H6 x3) fun v7 H7 =>
  outP CQ H7 (w_load none H7 v7) fun v8 H8 =>
  outP CQ H8 (some (.enter 82 [v4, v6, v8, (.slice none 0 0 true)])) fun v9 H9 =>
  outP CQ H9 (w_extract 0 H9 v9) fun v10 H10 =>
  outP CQ H10 (w_extract 1 H10 v9) fun _v11 H11 =>
  outP CQ (H11.more 1) (w_nil (H11.more 1) x0) fun v12 H12 =>
  outP CQ H12 (w_fieldAddr 1 H12 v12) fun v13 H13 =>
  outP CQ H13 (w_load none H13 v13) fun v14 H14 =>
  outP CQ H14 (w_fieldAddr 1 H14 x3) fun v15 H15 =>
  outP CQ H15 (w_load none H15 v15) fun v16 H16 =>
  outP CQ H16 (w_fieldAddr 4 H16 x3) fun v17 H17 =>
  outP CQ H17 (w_load none H17 v17) fun v18 H18 =>
  outP CQ H18 (w_fieldAddr 5 H18 x3) fun v19 H19 =>
  outP CQ H19 (w_load none H19 v19) fun v20 H20 =>
  outP CQ H20 (some (.enter 83 [])) fun v21 H21 =>
  ckP (reC true (w_load none H21 v13) v14) <|
  ckP (reC true (w_load none H21 v15) v16) <|
  ckP (reC true (w_load none H21 v17) v18) <|
  ckP (reC true (w_load none H21 v19) v20) <|
  outP CQ H21 (w_build PP 87 H21 [(0, x7), (1, v18), (2, v20), (3, v21), (4, v10)]) fun v22 H22 =>
  outP CQ H22 (w_box 87 H22 v22 (some (Nat.add H11.next 0))) fun v23 H23 =>
  outP CQ H23 (w_mapUpdate PP 9 83 H23 v14 v16 v23) fun _v24 H24 =>
  K (.tup []) H24)
theorem eQ32_tttthbl (K : KT) (r0 : (AV × AV × AV × AV) → AH → Prop) (a : TE) (H : AH) : bQ32 [1,1,1,1,0,0,0] (kQ32_tttthb K r0) a H = m_core_Core_madetttthbl K r0 (a 0) (a 3) (a 4) (a 7) H :=
  by kernel_rfl
def m_core_Core_madetttthb (K : KT) (x0 x3 x4 x7 : AV) (H : AH) : Prop :=
  loopP (fun (r0 : (AV × AV × AV × AV) → AH → Prop) (s : (AV × AV × AV × AV)) (H : AH) => m_core_Core_madetttthbl K r0 s.1 s.2.1 s.2.2.1 s.2.2.2 H) (x0, x3, x4, x7) H
theorem eQ32_tttthb (K : KT) (a : TE) (H : AH) : bQ32 [1,1,1,1,0,0] (kQ32_tttth K) a H = m_core_Core_madetttthb K (a 0) (a 3) (a 4) (a 7) H :=
  eLoopK (S := (AV × AV × AV × AV)) (fun a => (a 0, a 3, a 4, a 7)) (fun r0 s H => m_core_Core_madetttthbl K r0 s.1 s.2.1 s.2.2.1 s.2.2.2 H) (by kernel_rfl) (fun r => by kernel_rfl) (eQ32_tttthbl K)
theorem eQ32_tttth (K : KT) (a : TE) (H : AH) : bQ32 [1,1,1,1,0] (kQ32_tttt K) a H = m_core_Core_madetttthb K (a 0) (a 3) (a 4) (a 7) H :=
  eBlockK 2 (by kernel_rfl) (by kernel_rfl) (eQ32_tttthb K a H)
theorem eQ32_tttt (K : KT) (a : TE) (H : AH) : bQ32 [1,1,1,1] (kQ32 K) a H = m_core_Core_madetttthb K (a 0) (a 3) (a 4) (a 7) H :=
  eSeqJ (subC (bodyC PP 32) [1,1,1,1,1]) (by kernel_rfl) (by kernel_rfl) (eQ32_tttth K a H)
def m_core_Core_madettt (K : KT) (x0 x3 x4 : AV) (H : AH) : Prop :=
  m_core_Core_madetttthb K x0 x3 x4 (.int .i64 0) H
theorem eQ32_ttt (K : KT) (a : TE) (H : AH) : bQ32 [1,1,1] (kQ32 K) a H = m_core_Core_madettt K (a 0) (a 3) (a 4) H :=
  eSeq (ca := subC (bodyC PP 32) [1,1,1,0]) (by kernel_rfl) (eQ32_tttt K) (by kernel_rfl)
abbrev kQ32_tt (K : KT) : KP := exP (fun (a : TE) (H : AH) => m_core_Core_madettt K (a 0) (a 3) (a 4) H) (kQ32 K)
abbrev kQ32_ttht (K : KT) : KP := blockP 0 (kQ32_tt K)
abbrev kQ32_tthtb (K : KT) (r0 : (AV × AV × AV × AV) → AH → Prop) : KP := exP (fun (a : TE) (H : AH) => r0 (a 0, a 3, a 4, a 15) H) (kQ32_ttht K)
def m_core_Core_madetthtbl (K : KT) (r0 : (AV × AV × AV × AV) → AH → Prop) (x0 x3 x4 x15 : AV) (H : AH) : Prop :=
  outP CQ H (w_next H x15) fun v1 H1 =>
  outP CQ H1 (w_extract 0 H1 v1) fun v2 H2 =>
  condP v2
  (outP CQ H2 (w_entry H2 x15) fun v3 H3 =>
  outP CQ H3 (w_extract 1 H3 v3) fun v4 H4 =>
  outP CQ H4 (w_nil H4 v4) fun v5 H5 =>
  outP CQ H5 (w_fieldAddr 0 H5 v5) fun v6 H6 =>
  outP CQ H6 (w_load none H6 v6) fun v7 H7 =>
  outP CQ H7 (w_mapUpdate PP 3 4 H7 x4 v7 (.bool true)) fun _v8 H8 =>
  r0 (x0, x3, x4, x15) H8)
  (m_core_Core_madettt K x0 x3 x4 H2)
theorem eQ32_tthtbl (K : KT) (r0 : (AV × AV × AV × AV) → AH → Prop) (a : TE) (H : AH) : bQ32 [1,1,0,1,0,0] (kQ32_tthtb K r0) a H = m_core_Core_madetthtbl K r0 (a 0) (a 3) (a 4) (a 15) H :=
  by kernel_rfl
def m_core_Core_madetthtb (K : KT) (x0 x3 x4 x15 : AV) (H : AH) : Prop :=
  loopP (fun (r0 : (AV × AV × AV × AV) → AH → Prop) (s : (AV × AV × AV × AV)) (H : AH) => m_core_Core_madetthtbl K r0 s.1 s.2.1 s.2.2.1 s.2.2.2 H) (x0, x3, x4, x15) H
theorem eQ32_tthtb (K : KT) (a : TE) (H : AH) : bQ32 [1,1,0,1,0] (kQ32_ttht K) a H = m_core_Core_madetthtb K (a 0) (a 3) (a 4) (a 15) H :=
  eLoopK (S := (AV × AV × AV × AV)) (fun a => (a 0, a 3, a 4, a 15)) (fun r0 s H => m_core_Core_madetthtbl K r0 s.1 s.2.1 s.2.2.1 s.2.2.2 H) (by kernel_rfl) (fun r => by kernel_rfl) (eQ32_tthtbl K)
theorem eQ32_ttht (K : KT) (a : TE) (H : AH) : bQ32 [1,1,0,1] (kQ32_tt K) a H = m_core_Core_madetthtb K (a 0) (a 3) (a 4) (a 15) H :=
  eBlockK 0 (by kernel_rfl) (by kernel_rfl) (eQ32_tthtb K a H)
def m_core_Core_madetth (K : KT) (x0 x3 x4 : AV) (H : AH) : Prop :=
  outP CQ H (w_nil H x0) fun v1 H1 =>
  outP CQ H1 (w_fieldAddr 1 H1 v1) fun v2 H2 =>
  outP CQ H2 (w_load none H2 v2) fun v3 H3 =>
  outP CQ H3 (w_range (some (9, 83)) H3 v3 none) fun v4 H4 =>
  m_core_Core_madetthtb K x0 x3 x4 v4 H4
theorem eQ32_tth (K : KT) (a : TE) (H : AH) : bQ32 [1,1,0] (kQ32_tt K) a H = m_core_Core_madetth K (a 0) (a 3) (a 4) H :=
  eSeq (ca := subC (bodyC PP 32) [1,1,0,0]) (by kernel_rfl) (eQ32_ttht K) (by kernel_rfl)
theorem eQ32_tt (K : KT) (a : TE) (H : AH) : bQ32 [1,1] (kQ32 K) a H = m_core_Core_madetth K (a 0) (a 3) (a 4) H :=
  eSeqK (by kernel_rfl) (eQ32_ttt K) (by kernel_rfl) (eQ32_tth K a H)
def m_core_Core_madet (K : KT) (x0 x3 : AV) (H : AH) : Prop :=
  outP CQ H (w_makeMap H none) fun v1 H1 =>
  m_core_Core_madetth K x0 x3 v1 H1
theorem eQ32_t (K : KT) (a : TE) (H : AH) : bQ32 [1] (kQ32 K) a H = m_core_Core_madet K (a 0) (a 3) H :=
  eSeq (ca := subC (bodyC PP 32) [1,0]) (by kernel_rfl) (eQ32_tt K) (by kernel_rfl)
def m_core_Core_made (K : KT) (x0 x1 : AV) (H : AH) : Prop :=
  outP CQ H (w_box 41 H x1 none) fun v1 H1 =>
  m_core_Core_madet K x0 v1 H1
theorem eQ32_ (K : KT) (a : TE) (H : AH) : bQ32 [] (kQ32 K) a H = m_core_Core_made K (a 0) (a 1) H :=
  eSeq (ca := subC (bodyC PP 32) [0]) (by kernel_rfl) (eQ32_t K) (by kernel_rfl)
theorem m_core_Core_made_ok (x0 x1 : AV) (H : AH) (K : KT) (h : m_core_Core_made K x0 x1 H) : CQ.call 32 [x0, x1] H K :=
  have h1 : funP PP CQ 32 [x0, x1] H K = bQ32 [] (kQ32 K) (argE [x0, x1]) H := by kernel_rfl
  have h2 : m_core_Core_made K (argE [x0, x1] 0) (argE [x0, x1] 1) H = m_core_Core_made K x0 x1 H := by kernel_rfl
  funP_ok (P := PP) (by kernel_rfl) (by kernel_rfl) ((h1.trans ((eQ32_ K (argE [x0, x1]) H).trans h2)).mpr h)

/-! 51: (*fieldfare/core.Core).pool -/
abbrev bQ51 (p : List Nat) (k : KP) : KE := codeP PP CQ (subC (bodyC PP 51) p) k
abbrev kQ51 (K : KT) : KP := finP PP (resC PP 51) K
abbrev kQ51_tt (K : KT) : KP := exP (bQ51 [1,1,1] (kQ51 K)) (kQ51 K)
abbrev kQ51_ttht (K : KT) : KP := blockP 0 (kQ51_tt K)
abbrev kQ51_tthtb (K : KT) (r0 : (AV × AV × AV) → AH → Prop) : KP := exP (fun (a : TE) (H : AH) => r0 (a 0, a 3, a 11) H) (kQ51_ttht K)
def m_core_Core_pooltthtbl (K : KT) (r0 : (AV × AV × AV) → AH → Prop) (x0 x3 x11 : AV) (H : AH) : Prop :=
  outP CQ H (w_next H x11) fun v1 H1 =>
  outP CQ H1 (w_extract 0 H1 v1) fun v2 H2 =>
  condP v2
  (outP CQ H2 (w_entry H2 x11) fun v3 H3 =>
  outP CQ H3 (w_extract 0 H3 v3) fun v4 H4 =>
  outP CQ H4 (w_extract 1 H4 v3) fun v5 H5 =>
  outP CQ H5 (w_nil H5 v5) fun v6 H6 =>
  outP CQ H6 (w_fieldAddr 0 H6 v6) fun v7 H7 =>
  outP CQ H7 (w_load none H7 v7) fun v8 H8 =>
  outP CQ H8 (w_int .mul H8 (.int .i64 2) v8) fun v9 H9 =>
  outP CQ H9 (w_nil H9 v5) fun v10 H10 =>
  outP CQ H10 (w_fieldAddr 4 H10 v10) fun v11 H11 =>
  outP CQ H11 (w_load none H11 v11) fun v12 H12 =>
  outP CQ H12 (w_nil H12 v5) fun v13 H13 =>
  outP CQ H13 (w_fieldAddr 3 H13 v13) fun v14 H14 =>
  outP CQ H14 (w_load none H14 v14) fun v15 H15 =>
  outP CQ H15 (some (.enter 95 [v12])) fun v16 H16 =>
  ckP (reC true (w_load none H16 v7) v8) <|
  ckP (reC true (w_load none H16 v14) v15) <|
  outP CQ H16 (some (.enter 48 [v15])) fun v17 H17 =>
  ckP (reC true (w_load none H17 v7) v8) <|
  outP CQ H17 (some (.enter 123 [v16, v17])) fun v18 H18 =>
  ckP (reC true (w_load none H18 v7) v8) <|
  outP CQ H18 (some (.enter 122 [x3, v9, v18])) fun _v19 H19 =>
  outP CQ H19 (some (.enter 92 [x0, v4])) fun v20 H20 =>
  condP v20
  (outP CQ H20 (w_nil H20 v5) fun v21 H21 =>
  outP CQ H21 (w_fieldAddr 0 H21 v21) fun v22 H22 =>
  outP CQ H22 (w_load none H22 v22) fun v23 H23 =>
  outP CQ H23 (w_int .mul H23 (.int .i64 2) v23) fun v24 H24 =>
  outP CQ H24 (w_int .add H24 v24 (.int .i64 1)) fun v25 H25 =>
  outP CQ H25 (w_nil H25 x0) fun v26 H26 =>
  outP CQ H26 (w_fieldAddr 3 H26 v26) fun v27 H27 =>
  outP CQ H27 (w_load none H27 v27) fun v28 H28 =>
  outP CQ H28 (w_nil H28 v5) fun v29 H29 =>
  outP CQ H29 (w_fieldAddr 3 H29 v29) fun v30 H30 =>
  outP CQ H30 (w_load none H30 v30) fun v31 H31 =>
  outP CQ H31 (some (.enter 124 [v28])) fun v32 H32 =>
  ckP (reC true (w_load none H32 v22) v23) <|
  ckP (reC true (w_load none H32 v30) v31) <|
  outP CQ H32 (some (.enter 95 [v32])) fun v33 H33 =>
  ckP (reC true (w_load none H33 v22) v23) <|
  ckP (reC true (w_load none H33 v30) v31) <|
  outP CQ H33 (some (.enter 48 [v31])) fun v34 H34 =>
  ckP (reC true (w_load none H34 v22) v23) <|
  outP CQ H34 (some (.enter 123 [v33, v34])) fun v35 H35 =>
  ckP (reC true (w_load none H35 v22) v23) <|
  outP CQ H35 (some (.enter 122 [x3, v25, v35])) fun _v36 H36 =>
  r0 (x0, x3, x11) H36)
  (r0 (x0, x3, x11) H20))
  (K x3 H2)
theorem eQ51_tthtbl (K : KT) (r0 : (AV × AV × AV) → AH → Prop) (a : TE) (H : AH) : bQ51 [1,1,0,1,0,0] (kQ51_tthtb K r0) a H = m_core_Core_pooltthtbl K r0 (a 0) (a 3) (a 11) H :=
  by kernel_rfl
def m_core_Core_pooltthtb (K : KT) (x0 x3 x11 : AV) (H : AH) : Prop :=
  loopP (fun (r0 : (AV × AV × AV) → AH → Prop) (s : (AV × AV × AV)) (H : AH) => m_core_Core_pooltthtbl K r0 s.1 s.2.1 s.2.2 H) (x0, x3, x11) H
theorem eQ51_tthtb (K : KT) (a : TE) (H : AH) : bQ51 [1,1,0,1,0] (kQ51_ttht K) a H = m_core_Core_pooltthtb K (a 0) (a 3) (a 11) H :=
  eLoopK (S := (AV × AV × AV)) (fun a => (a 0, a 3, a 11)) (fun r0 s H => m_core_Core_pooltthtbl K r0 s.1 s.2.1 s.2.2 H) (by kernel_rfl) (fun r => by kernel_rfl) (eQ51_tthtbl K)
theorem eQ51_ttht (K : KT) (a : TE) (H : AH) : bQ51 [1,1,0,1] (kQ51_tt K) a H = m_core_Core_pooltthtb K (a 0) (a 3) (a 11) H :=
  eBlockK 0 (by kernel_rfl) (by kernel_rfl) (eQ51_tthtb K a H)
def m_core_Core_pooltth (K : KT) (x0 x3 : AV) (H : AH) : Prop :=
  outP CQ H (w_nil H x0) fun v1 H1 =>
  outP CQ H1 (w_fieldAddr 1 H1 v1) fun v2 H2 =>
  outP CQ H2 (w_load none H2 v2) fun v3 H3 =>
  outP CQ H3 (w_range (some (9, 83)) H3 v3 none) fun v4 H4 =>
  m_core_Core_pooltthtb K x0 x3 v4 H4
theorem eQ51_tth (K : KT) (a : TE) (H : AH) : bQ51 [1,1,0] (kQ51_tt K) a H = m_core_Core_pooltth K (a 0) (a 3) H :=
  eSeq (ca := subC (bodyC PP 51) [1,1,0,0]) (by kernel_rfl) (eQ51_ttht K) (by kernel_rfl)
theorem eQ51_tt (K : KT) (a : TE) (H : AH) : bQ51 [1,1] (kQ51 K) a H = m_core_Core_pooltth K (a 0) (a 3) H :=
  eSeqJ (subC (bodyC PP 51) [1,1,1]) (by kernel_rfl) (by kernel_rfl) (eQ51_tth K a H)
def m_core_Core_poolt (K : KT) (x0 : AV) (H : AH) : Prop :=
  outP CQ H (some (.enter 121 [(.int .i64 64)])) fun v1 H1 =>
  m_core_Core_pooltth K x0 v1 H1
theorem eQ51_t (K : KT) (a : TE) (H : AH) : bQ51 [1] (kQ51 K) a H = m_core_Core_poolt K (a 0) H :=
  eSeq (ca := subC (bodyC PP 51) [1,0]) (by kernel_rfl) (eQ51_tt K) (by kernel_rfl)
def m_core_Core_pool (K : KT) (x0 : AV) (H : AH) : Prop :=
  m_core_Core_poolt K x0 H
theorem eQ51_ (K : KT) (a : TE) (H : AH) : bQ51 [] (kQ51 K) a H = m_core_Core_pool K (a 0) H :=
  eSeq (ca := subC (bodyC PP 51) [0]) (by kernel_rfl) (eQ51_t K) (by kernel_rfl)
theorem m_core_Core_pool_ok (x0 : AV) (H : AH) (K : KT) (h : m_core_Core_pool K x0 H) : CQ.call 51 [x0] H K :=
  have h1 : funP PP CQ 51 [x0] H K = bQ51 [] (kQ51 K) (argE [x0]) H := by kernel_rfl
  have h2 : m_core_Core_pool K (argE [x0] 0) H = m_core_Core_pool K x0 H := by kernel_rfl
  funP_ok (P := PP) (by kernel_rfl) (by kernel_rfl) ((h1.trans ((eQ51_ K (argE [x0]) H).trans h2)).mpr h)

/-! 19: (*fieldfare/core.Core).Free -/
abbrev bQ19 (p : List Nat) (k : KP) : KE := codeP PP CQ (subC (bodyC PP 19) p) k
abbrev kQ19 (K : KT) : KP := finP PP (resC PP 19) K
def m_core_Core_Free (K : KT) (x0 : AV) (H : AH) : Prop :=
  outP CQ H (w_eq PP .eql 24 false true H x0 (.ptr none)) fun v1 H1 =>
  condP v1
  (K (.int .i64 0) H1)
  (outP CQ H1 (some (.enter 51 [x0])) fun v2 H2 =>
  outP CQ H2 (some (.enter 52 [v2])) fun v3 H3 =>
  K v3 H3)
theorem eQ19_ (K : KT) (a : TE) (H : AH) : bQ19 [] (kQ19 K) a H = m_core_Core_Free K (a 0) H :=
  by kernel_rfl
theorem m_core_Core_Free_ok (x0 : AV) (H : AH) (K : KT) (h : m_core_Core_Free K x0 H) : CQ.call 19 [x0] H K :=
  have h1 : funP PP CQ 19 [x0] H K = bQ19 [] (kQ19 K) (argE [x0]) H := by kernel_rfl
  have h2 : m_core_Core_Free K (argE [x0] 0) H = m_core_Core_Free K x0 H := by kernel_rfl
  funP_ok (P := PP) (by kernel_rfl) (by kernel_rfl) ((h1.trans ((eQ19_ K (argE [x0]) H).trans h2)).mpr h)

/-! 201: (*fieldfare/core.Core).more -/
abbrev bQ201 (p : List Nat) (k : KP) : KE := codeP PP CQ (subC (bodyC PP 201) p) k
abbrev kQ201 (K : KT) : KP := finP PP (resC PP 201) K
def m_core_Core_more (K : KT) (x0 x1 : AV) (H : AH) : Prop :=
  outP CQ H (w_nil H x0) fun v1 H1 =>
  outP CQ H1 (w_fieldAddr 1 H1 v1) fun v2 H2 =>
  outP CQ H2 (w_load none H2 v2) fun v3 H3 =>
  outP CQ H3 (w_lookup PP 9 83 false H3 v3 x1) fun v4 H4 =>
  outP CQ H4 (w_nil H4 v4) fun v5 H5 =>
  outP CQ H5 (w_fieldAddr 3 H5 v5) fun v6 H6 =>
  outP CQ H6 (w_load none H6 v6) fun v7 H7 =>
  outP CQ H7 (some (.enter 48 [v7])) fun v8 H8 =>
  outP CQ H8 (w_nil H8 v4) fun v9 H9 =>
  outP CQ H9 (w_fieldAddr 4 H9 v9) fun v10 H10 =>
  outP CQ H10 (w_load none H10 v10) fun v11 H11 =>
  outP CQ H11 (w_int .add H11 v8 (.int .i64 1)) fun v12 H12 =>
  outP CQ H12 (w_nil H12 v4) fun v13 H13 =>
  outP CQ H13 (w_fieldAddr 4 H13 v13) fun v14 H14 =>
  outP CQ H14 (w_load none H14 v14) fun v15 H15 =>
  outP CQ H15 (some (.enter 95 [v11])) fun v16 H16 =>
  ckP (reC true (w_load none H16 v14) v15) <|
  outP CQ H16 (some (.enter 123 [v16, v12])) fun v17 H17 =>
  ckP (reC true (w_load none H17 v14) v15) <|
  outP CQ H17 (some (.enter 95 [v15])) fun v18 H18 =>
  outP CQ H18 (some (.enter 123 [v18, v8])) fun v19 H19 =>
  outP CQ H19 (w_int .sub H19 v17 v19) fun v20 H20 =>
  outP CQ H20 (some (.enter 92 [x0, x1])) fun v21 H21 =>
  condP v21
  (outP CQ H21 (w_nil H21 x0) fun v22 H22 =>
  outP CQ H22 (w_fieldAddr 3 H22 v22) fun v23 H23 =>
  outP CQ H23 (w_load none H23 v23) fun v24 H24 =>
  outP CQ H24 (w_int .add H24 v8 (.int .i64 1)) fun v25 H25 =>
  outP CQ H25 (w_nil H25 x0) fun v26 H26 =>
  outP CQ H26 (w_fieldAddr 3 H26 v26) fun v27 H27 =>
  outP CQ H27 (w_load none H27 v27) fun v28 H28 =>
  outP CQ H28 (some (.enter 124 [v24])) fun v29 H29 =>
  ckP (reC true (w_load none H29 v27) v28) <|
  outP CQ H29 (some (.enter 95 [v29])) fun v30 H30 =>
  ckP (reC true (w_load none H30 v27) v28) <|
  outP CQ H30 (some (.enter 123 [v30, v25])) fun v31 H31 =>
  ckP (reC true (w_load none H31 v27) v28) <|
  outP CQ H31 (some (.enter 124 [v28])) fun v32 H32 =>
  outP CQ H32 (some (.enter 95 [v32])) fun v33 H33 =>
  outP CQ H33 (some (.enter 123 [v33, v8])) fun v34 H34 =>
  outP CQ H34 (w_int .sub H34 v31 v34) fun v35 H35 =>
  outP CQ H35 (w_int .add H35 v20 v35) fun v36 H36 =>
  K v36 H36)
  (K v20 H21)
theorem eQ201_ (K : KT) (a : TE) (H : AH) : bQ201 [] (kQ201 K) a H = m_core_Core_more K (a 0) (a 1) H :=
  by kernel_rfl
theorem m_core_Core_more_ok (x0 x1 : AV) (H : AH) (K : KT) (h : m_core_Core_more K x0 x1 H) : CQ.call 201 [x0, x1] H K :=
  have h1 : funP PP CQ 201 [x0, x1] H K = bQ201 [] (kQ201 K) (argE [x0, x1]) H := by kernel_rfl
  have h2 : m_core_Core_more K (argE [x0, x1] 0) (argE [x0, x1] 1) H = m_core_Core_more K x0 x1 H := by kernel_rfl
  funP_ok (P := PP) (by kernel_rfl) (by kernel_rfl) ((h1.trans ((eQ201_ K (argE [x0, x1]) H).trans h2)).mpr h)

/-! 200: (*fieldfare/core.Core).throttled -/
abbrev bQ200 (p : List Nat) (k : KP) : KE := codeP PP CQ (subC (bodyC PP 200) p) k
abbrev kQ200 (K : KT) : KP := finP PP (resC PP 200) K
def m_core_Core_throttled (K : KT) (x0 x1 : AV) (H : AH) : Prop :=
  outP CQ H (some (.enter 92 [x0, x1])) fun v1 H1 =>
  guardP (boolIs true v1) H1 (outP CQ H1 (some (.val x0 H1))) fun v2 H2 =>
  guardP (boolIs true v1) H2 (outP CQ H2 (w_nil H2 v2)) fun v3 H3 =>
  guardP (boolIs true v1) H3 (outP CQ H3 (w_fieldAddr 3 H3 v3)) fun v4 H4 =>
  guardP (boolIs true v1) H4 (outP CQ H4 (w_load none H4 v4)) fun v5 H5 =>
  guardP (boolIs true v1) H5 (outP CQ H5 (some (.enter 107 [v5]))) fun v6 H6 =>
  guardP (boolIs true v1) H6 (outP CQ H6 (w_field none 9 H6 v6)) fun v7 H7 =>
  guardP (boolIs true v1) H7 (outP CQ H7 (w_int .lss H7 v7 (.int .i64 1))) fun v8 H8 =>
  outP CQ H8 (w_pick H8 v1 v8 (.bool false)) fun v9 H9 =>
  K v9 H9
theorem eQ200_ (K : KT) (a : TE) (H : AH) : bQ200 [] (kQ200 K) a H = m_core_Core_throttled K (a 0) (a 1) H :=
  by kernel_rfl
theorem m_core_Core_throttled_ok (x0 x1 : AV) (H : AH) (K : KT) (h : m_core_Core_throttled K x0 x1 H) : CQ.call 200 [x0, x1] H K :=
  have h1 : funP PP CQ 200 [x0, x1] H K = bQ200 [] (kQ200 K) (argE [x0, x1]) H := by kernel_rfl
  have h2 : m_core_Core_throttled K (argE [x0, x1] 0) (argE [x0, x1] 1) H = m_core_Core_throttled K x0 x1 H := by kernel_rfl
  funP_ok (P := PP) (by kernel_rfl) (by kernel_rfl) ((h1.trans ((eQ200_ K (argE [x0, x1]) H).trans h2)).mpr h)

/-! 92: (*fieldfare/core.Core).moves -/
abbrev bQ92 (p : List Nat) (k : KP) : KE := codeP PP CQ (subC (bodyC PP 92) p) k
abbrev kQ92 (K : KT) : KP := finP PP (resC PP 92) K
def m_core_Core_moves (K : KT) (x0 x1 : AV) (H : AH) : Prop :=
  outP CQ H (w_nil H x0) fun v1 H1 =>
  outP CQ H1 (w_fieldAddr 3 H1 v1) fun v2 H2 =>
  outP CQ H2 (w_load none H2 v2) fun v3 H3 =>
  outP CQ H3 (w_eq PP .neq 79 false true H3 v3 (.ptr none)) fun v4 H4 =>
  guardP (boolIs true v4) H4 (outP CQ H4 (some (.val x0 H4))) fun v5 H5 =>
  guardP (boolIs true v4) H5 (outP CQ H5 (w_nil H5 v5)) fun v6 H6 =>
  guardP (boolIs true v4) H6 (outP CQ H6 (w_fieldAddr 4 H6 v6)) fun v7 H7 =>
  guardP (boolIs true v4) H7 (outP CQ H7 (w_load none H7 v7)) fun v8 H8 =>
  guardP (boolIs true v4) H8 (outP CQ H8 (some (.val x1 H8))) fun v9 H9 =>
  guardP (boolIs true v4) H9 (outP CQ H9 (w_str .eql H9 v8 v9)) fun v10 H10 =>
  outP CQ H10 (w_pick H10 v4 v10 (.bool false)) fun v11 H11 =>
  K v11 H11
theorem eQ92_ (K : KT) (a : TE) (H : AH) : bQ92 [] (kQ92 K) a H = m_core_Core_moves K (a 0) (a 1) H :=
  by kernel_rfl
theorem m_core_Core_moves_ok (x0 x1 : AV) (H : AH) (K : KT) (h : m_core_Core_moves K x0 x1 H) : CQ.call 92 [x0, x1] H K :=
  have h1 : funP PP CQ 92 [x0, x1] H K = bQ92 [] (kQ92 K) (argE [x0, x1]) H := by kernel_rfl
  have h2 : m_core_Core_moves K (argE [x0, x1] 0) (argE [x0, x1] 1) H = m_core_Core_moves K x0 x1 H := by kernel_rfl
  funP_ok (P := PP) (by kernel_rfl) (by kernel_rfl) ((h1.trans ((eQ92_ K (argE [x0, x1]) H).trans h2)).mpr h)

/-! 35: (*fieldfare/core.Core).notes -/
abbrev bQ35 (p : List Nat) (k : KP) : KE := codeP PP CQ (subC (bodyC PP 35) p) k
abbrev kQ35 (K : KT) : KP := finP PP (resC PP 35) K
def m_core_Core_notes (K : KT) (x0 x1 x2 : AV) (H : AH) : Prop :=
  outP CQ H (w_box 92 H x2 none) fun v1 H1 =>
  outP CQ H1 (some (.enter 92 [x0, x1])) fun v2 H2 =>
  condP v2
  (outP CQ H2 (w_nil H2 x0) fun v3 H3 =>
  outP CQ H3 (w_fieldAddr 3 H3 v3) fun v4 H4 =>
  outP CQ H4 (w_load none H4 v4) fun v5 H5 =>
  outP CQ H5 (some (.enter 93 [v5])) fun _v6 H6 =>
  outP CQ H6 (w_nil H6 x0) fun v7 H7 =>
  outP CQ H7 (w_fieldAddr 3 H7 v7) fun v8 H8 =>
  outP CQ H8 (w_load none H8 v8) fun v9 H9 =>
  outP CQ H9 (w_load (some 4) H9 v1) fun v10 H10 =>
  outP CQ H10 (some (.enter 94 [v9, v10])) fun _v11 H11 =>
  K (.tup []) H11)
  (K (.tup []) H2)
theorem eQ35_ (K : KT) (a : TE) (H : AH) : bQ35 [] (kQ35 K) a H = m_core_Core_notes K (a 0) (a 1) (a 2) H :=
  by kernel_rfl
theorem m_core_Core_notes_ok (x0 x1 x2 : AV) (H : AH) (K : KT) (h : m_core_Core_notes K x0 x1 x2 H) : CQ.call 35 [x0, x1, x2] H K :=
  have h1 : funP PP CQ 35 [x0, x1, x2] H K = bQ35 [] (kQ35 K) (argE [x0, x1, x2]) H := by kernel_rfl
  have h2 : m_core_Core_notes K (argE [x0, x1, x2] 0) (argE [x0, x1, x2] 1) (argE [x0, x1, x2] 2) H = m_core_Core_notes K x0 x1 x2 H := by kernel_rfl
  funP_ok (P := PP) (by kernel_rfl) (by kernel_rfl) ((h1.trans ((eQ35_ K (argE [x0, x1, x2]) H).trans h2)).mpr h)

/-! 198: fieldfare/core.name -/
abbrev bQ198 (p : List Nat) (k : KP) : KE := codeP PP CQ (subC (bodyC PP 198) p) k
abbrev kQ198 (K : KT) : KP := finP PP (resC PP 198) K
abbrev kQ198_tt (K : KT) : KP := exP (bQ198 [1,1,1] (kQ198 K)) (kQ198 K)
abbrev kQ198_ttht (K : KT) : KP := blockP 0 (kQ198_tt K)
abbrev kQ198_tthtb (K : KT) (r0 : (AV × AV × AV) → AH → Prop) : KP := exP (fun (a : TE) (H : AH) => r0 (a 0, a 13, a 14) H) (kQ198_ttht K)
def m_core_nametthtbl (K : KT) (r0 : (AV × AV × AV) → AH → Prop) (x0 x13 x14 : AV) (H : AH) : Prop :=
  outP CQ H (w_int .lss H x14 x13) fun v1 H1 =>
  condP v1
  (outP CQ H1 (w_index PP 9 H1 x0 x14) fun v2 H2 =>
  outP CQ H2 (w_int .lss H2 v2 (.int .u8 97)) fun v3 H3 =>
  guardP (boolIs false v3) H3 (outP CQ H3 (some (.val x0 H3))) fun v4 H4 =>
  guardP (boolIs false v3) H4 (outP CQ H4 (some (.val x14 H4))) fun v5 H5 =>
  guardP (boolIs false v3) H5 (outP CQ H5 (w_index PP 9 H5 v4 v5)) fun v6 H6 =>
  guardP (boolIs false v3) H6 (outP CQ H6 (w_int .gtr H6 v6 (.int .u8 122))) fun v7 H7 =>
  outP CQ H7 (w_pick H7 v3 (.bool true) v7) fun v8 H8 =>
  condP v8
  (K (.bool false) H8)
  (outP CQ H8 (w_int .add H8 x14 (.int .i64 1)) fun v9 H9 =>
  r0 (x0, x13, v9) H9))
  (K (.bool true) H1)
theorem eQ198_tthtbl (K : KT) (r0 : (AV × AV × AV) → AH → Prop) (a : TE) (H : AH) : bQ198 [1,1,0,1,0,0] (kQ198_tthtb K r0) a H = m_core_nametthtbl K r0 (a 0) (a 13) (a 14) H :=
  by kernel_rfl
def m_core_nametthtb (K : KT) (x0 x13 x14 : AV) (H : AH) : Prop :=
  loopP (fun (r0 : (AV × AV × AV) → AH → Prop) (s : (AV × AV × AV)) (H : AH) => m_core_nametthtbl K r0 s.1 s.2.1 s.2.2 H) (x0, x13, x14) H
theorem eQ198_tthtb (K : KT) (a : TE) (H : AH) : bQ198 [1,1,0,1,0] (kQ198_ttht K) a H = m_core_nametthtb K (a 0) (a 13) (a 14) H :=
  eLoopK (S := (AV × AV × AV)) (fun a => (a 0, a 13, a 14)) (fun r0 s H => m_core_nametthtbl K r0 s.1 s.2.1 s.2.2 H) (by kernel_rfl) (fun r => by kernel_rfl) (eQ198_tthtbl K)
theorem eQ198_ttht (K : KT) (a : TE) (H : AH) : bQ198 [1,1,0,1] (kQ198_tt K) a H = m_core_nametthtb K (a 0) (a 13) (a 14) H :=
  eBlockK 0 (by kernel_rfl) (by kernel_rfl) (eQ198_tthtb K a H)
def m_core_nametth (K : KT) (x0 : AV) (H : AH) : Prop :=
  outP CQ H (w_len PP 9 H x0) fun v1 H1 =>
  m_core_nametthtb K x0 v1 (.int .i64 0) H1
theorem eQ198_tth (K : KT) (a : TE) (H : AH) : bQ198 [1,1,0] (kQ198_tt K) a H = m_core_nametth K (a 0) H :=
  eSeq (ca := subC (bodyC PP 198) [1,1,0,0]) (by kernel_rfl) (eQ198_ttht K) (by kernel_rfl)
theorem eQ198_tt (K : KT) (a : TE) (H : AH) : bQ198 [1,1] (kQ198 K) a H = m_core_nametth K (a 0) H :=
  eSeqJ (subC (bodyC PP 198) [1,1,1]) (by kernel_rfl) (by kernel_rfl) (eQ198_tth K a H)
def m_core_namet (K : KT) (x0 : AV) (H : AH) : Prop :=
  outP CQ H (w_len PP 9 H x0) fun v1 H1 =>
  outP CQ H1 (w_int .lss H1 v1 (.int .i64 1)) fun v2 H2 =>
  guardP (boolIs false v2) H2 (outP CQ H2 (some (.val x0 H2))) fun v3 H3 =>
  guardP (boolIs false v2) H3 (outP CQ H3 (w_len PP 9 H3 v3)) fun v4 H4 =>
  guardP (boolIs false v2) H4 (outP CQ H4 (w_int .gtr H4 v4 (.int .i64 12))) fun v5 H5 =>
  outP CQ H5 (w_pick H5 v2 (.bool true) v5) fun v6 H6 =>
  condP v6
  (K (.bool false) H6)
  (m_core_nametth K x0 H6)
theorem eQ198_t (K : KT) (a : TE) (H : AH) : bQ198 [1] (kQ198 K) a H = m_core_namet K (a 0) H :=
  eSeq (ca := subC (bodyC PP 198) [1,0]) (by kernel_rfl) (eQ198_tt K) (by kernel_rfl)
def m_core_name (K : KT) (x0 : AV) (H : AH) : Prop :=
  m_core_namet K x0 H
theorem eQ198_ (K : KT) (a : TE) (H : AH) : bQ198 [] (kQ198 K) a H = m_core_name K (a 0) H :=
  eSeq (ca := subC (bodyC PP 198) [0]) (by kernel_rfl) (eQ198_t K) (by kernel_rfl)
theorem m_core_name_ok (x0 : AV) (H : AH) (K : KT) (h : m_core_name K x0 H) : CQ.call 198 [x0] H K :=
  have h1 : funP PP CQ 198 [x0] H K = bQ198 [] (kQ198 K) (argE [x0]) H := by kernel_rfl
  have h2 : m_core_name K (argE [x0] 0) H = m_core_name K x0 H := by kernel_rfl
  funP_ok (P := PP) (by kernel_rfl) (by kernel_rfl) ((h1.trans ((eQ198_ K (argE [x0]) H).trans h2)).mpr h)

/-! 43: fieldfare/core.at -/
abbrev bQ43 (p : List Nat) (k : KP) : KE := codeP PP CQ (subC (bodyC PP 43) p) k
abbrev kQ43 (K : KT) : KP := finP PP (resC PP 43) K
def m_core_at (K : KT) (x0 : AV) (H : AH) : Prop :=
  outP CQ H (some (.enter 76 [(.str [99, 111, 114, 101]), x0])) fun v1 H1 =>
  K v1 H1
theorem eQ43_ (K : KT) (a : TE) (H : AH) : bQ43 [] (kQ43 K) a H = m_core_at K (a 0) H :=
  by kernel_rfl
theorem m_core_at_ok (x0 : AV) (H : AH) (K : KT) (h : m_core_at K x0 H) : CQ.call 43 [x0] H K :=
  have h1 : funP PP CQ 43 [x0] H K = bQ43 [] (kQ43 K) (argE [x0]) H := by kernel_rfl
  have h2 : m_core_at K (argE [x0] 0) H = m_core_at K x0 H := by kernel_rfl
  funP_ok (P := PP) (by kernel_rfl) (by kernel_rfl) ((h1.trans ((eQ43_ K (argE [x0]) H).trans h2)).mpr h)

/-! 5: fieldfare/fieldfarelaw23.CoreOrder -/
abbrev bQ5 (p : List Nat) (k : KP) : KE := codeP PP CQ (subC (bodyC PP 5) p) k
abbrev kQ5 (K : KT) : KP := finP PP (resC PP 5) K
def m_fieldfarelaw23_CoreOrderttttttttt (K : KT) (x2 x6 x7 : AV) (H : AH) : Prop :=
  outP CQ H (w_load (some 11) H x2) fun v1 H1 =>
  outP CQ H1 (some (.enter 17 [x6, v1])) fun v2 H2 =>
  outP CQ H2 (some (.enter 12 [v2])) fun v3 H3 =>
  outP CQ H3 (w_int .neq H3 v3 x7) fun v4 H4 =>
  condP v4
  (K (.bool false) H4)
  (outP CQ H4 (w_fieldAddr 1 H4 x2) fun v5 H5 =>
  outP CQ H5 (w_store 1 H5 v5 (.str [110, 111, 98, 111, 100, 121])) fun _v6 H6 =>
  outP CQ H6 (w_load (some 11) H6 x2) fun v7 H7 =>
  outP CQ H7 (some (.enter 17 [x6, v7])) fun v8 H8 =>
  outP CQ H8 (some (.enter 12 [v8])) fun v9 H9 =>
  outP CQ H9 (w_int .neq H9 v9 (.int .i64 3)) fun v10 H10 =>
  condP v10
  (K (.bool false) H10)
  (outP CQ H10 (w_build PP 41 H10 [(0, (.int .i64 1)), (1, (.str [97])), (4, (.int .i64 99)), (5, (.int .i64 9)), (6, (.int .i64 9))]) fun v11 H11 =>
  outP CQ H11 (w_alloc 41 [(.int .i64 0), (.str []), (.str []), (.int .i64 0), (.int .i64 0), (.int .i64 0), (.int .i64 0), (.slice none 0 0 true), (.str []), (.int .i64 0), (.int .u32 0)] H11 none) fun v12 H12 =>
  outP CQ H12 (w_store 11 H12 v12 v11) fun _v13 H13 =>
  outP CQ H13 (w_build PP 41 H13 [(0, (.int .i64 1)), (1, (.str [65])), (4, (.int .i64 99)), (5, (.int .i64 9)), (6, (.int .i64 9))]) fun v14 H14 =>
  outP CQ H14 (w_alloc 41 [(.int .i64 0), (.str []), (.str []), (.int .i64 0), (.int .i64 0), (.int .i64 0), (.int .i64 0), (.slice none 0 0 true), (.str []), (.int .i64 0), (.int .u32 0)] H14 none) fun v15 H15 =>
  outP CQ H15 (w_store 11 H15 v15 v14) fun _v16 H16 =>
  outP CQ H16 (w_build PP 41 H16 [(0, (.int .i64 1)), (1, (.str [98])), (4, (.int .i64 99)), (5, (.int .i64 9)), (6, (.int .i64 9))]) fun v17 H17 =>
  outP CQ H17 (w_alloc 41 [(.int .i64 0), (.str []), (.str []), (.int .i64 0), (.int .i64 0), (.int .i64 0), (.int .i64 0), (.slice none 0 0 true), (.str []), (.int .i64 0), (.int .u32 0)] H17 none) fun v18 H18 =>
  outP CQ H18 (w_store 11 H18 v18 v17) fun _v19 H19 =>
  outP CQ H19 (w_build PP 41 H19 [(0, (.int .i64 1)), (1, (.str [98])), (4, (.int .i64 8)), (5, (.int .i64 1)), (6, (.int .i64 9))]) fun v20 H20 =>
  outP CQ H20 (w_alloc 41 [(.int .i64 0), (.str []), (.str []), (.int .i64 0), (.int .i64 0), (.int .i64 0), (.int .i64 0), (.slice none 0 0 true), (.str []), (.int .i64 0), (.int .u32 0)] H20 none) fun v21 H21 =>
  outP CQ H21 (w_store 11 H21 v21 v20) fun _v22 H22 =>
  outP CQ H22 (w_load (some 11) H22 v12) fun v23 H23 =>
  outP CQ H23 (some (.enter 17 [x6, v23])) fun v24 H24 =>
  outP CQ H24 (some (.enter 12 [v24])) fun v25 H25 =>
  outP CQ H25 (w_int .eql H25 v25 (.int .i64 4)) fun v26 H26 =>
  guardP (boolIs true v26) H26 (outP CQ H26 (some (.val x6 H26))) fun v27 H27 =>
  guardP (boolIs true v26) H27 (outP CQ H27 (w_load (some 11) H27 v15)) fun v28 H28 =>
  guardP (boolIs true v26) H28 (outP CQ H28 (some (.enter 17 [v27, v28]))) fun v29 H29 =>
  guardP (boolIs true v26) H29 (outP CQ H29 (some (.enter 12 [v29]))) fun v30 H30 =>
  guardP (boolIs true v26) H30 (outP CQ H30 (w_int .eql H30 v30 (.int .i64 1))) fun v31 H31 =>
  outP CQ H31 (w_pick H31 v26 v31 (.bool false)) fun v32 H32 =>
  guardP (boolIs true v32) H32 (outP CQ H32 (some (.val x6 H32))) fun v33 H33 =>
  guardP (boolIs true v32) H33 (outP CQ H33 (w_load (some 11) H33 v18)) fun v34 H34 =>
  guardP (boolIs true v32) H34 (outP CQ H34 (some (.enter 17 [v33, v34]))) fun v35 H35 =>
  guardP (boolIs true v32) H35 (outP CQ H35 (some (.enter 12 [v35]))) fun v36 H36 =>
  guardP (boolIs true v32) H36 (outP CQ H36 (w_int .eql H36 v36 (.int .i64 2))) fun v37 H37 =>
  outP CQ H37 (w_pick H37 v32 v37 (.bool false)) fun v38 H38 =>
  guardP (boolIs true v38) H38 (outP CQ H38 (some (.val x6 H38))) fun v39 H39 =>
  guardP (boolIs true v38) H39 (outP CQ H39 (w_load (some 11) H39 v21)) fun v40 H40 =>
  guardP (boolIs true v38) H40 (outP CQ H40 (some (.enter 17 [v39, v40]))) fun v41 H41 =>
  guardP (boolIs true v38) H41 (outP CQ H41 (some (.enter 12 [v41]))) fun v42 H42 =>
  guardP (boolIs true v38) H42 (outP CQ H42 (w_int .eql H42 v42 (.int .i64 12))) fun v43 H43 =>
  outP CQ H43 (w_pick H43 v38 v43 (.bool false)) fun v44 H44 =>
  K v44 H44))
theorem eQ5_ttttttttt (K : KT) (a : TE) (H : AH) : bQ5 [1,1,1,1,1,1,1,1,1] (kQ5 K) a H = m_fieldfarelaw23_CoreOrderttttttttt K (a 2) (a 6) (a 7) H :=
  by kernel_rfl
def m_fieldfarelaw23_CoreOrdertttttttt (K : KT) (x2 x6 x7 : AV) (H : AH) : Prop :=
  outP CQ H (w_fieldAddr 3 H x2) fun v1 H1 =>
  outP CQ H1 (w_load none H1 v1) fun v2 H2 =>
  outP CQ H2 (w_int .lss H2 v2 (.int .i64 1)) fun v3 H3 =>
  guardP (boolIs false v3) H3 (outP CQ H3 (w_fieldAddr 3 H3 x2)) fun v4 H4 =>
  guardP (boolIs false v3) H4 (outP CQ H4 (w_load none H4 v4)) fun v5 H5 =>
  guardP (boolIs false v3) H5 (outP CQ H5 (w_int .gtr H5 v5 (.int .i64 1000))) fun v6 H6 =>
  outP CQ H6 (w_pick H6 v3 (.bool true) v6) fun v7 H7 =>
  condP v7
  (m_fieldfarelaw23_CoreOrderttttttttt K x2 x6 (.int .i64 2) H7)
  (outP CQ H7 (w_fieldAddr 7 H7 x2) fun v8 H8 =>
  outP CQ H8 (w_load none H8 v8) fun v9 H9 =>
  outP CQ H9 (w_len PP 27 H9 v9) fun v10 H10 =>
  outP CQ H10 (w_int .neq H10 v10 (.int .i64 2)) fun v11 H11 =>
  guardP (boolIs false v11) H11 (outP CQ H11 (w_fieldAddr 7 H11 x2)) fun v12 H12 =>
  guardP (boolIs false v11) H12 (outP CQ H12 (w_load none H12 v12)) fun v13 H13 =>
  guardP (boolIs false v11) H13 (outP CQ H13 (w_indexAddr (.sl 1) H13 v13 (.int .i64 0))) fun v14 H14 =>
  guardP (boolIs false v11) H14 (outP CQ H14 (w_load none H14 v14)) fun v15 H15 =>
  guardP (boolIs false v11) H15 (outP CQ H15 (w_int .lss H15 v15 (.int .i32 (-1048576)))) fun v16 H16 =>
  outP CQ H16 (w_pick H16 v11 (.bool true) v16) fun v17 H17 =>
  guardP (boolIs false v17) H17 (outP CQ H17 (w_fieldAddr 7 H17 x2)) fun v18 H18 =>
  guardP (boolIs false v17) H18 (outP CQ H18 (w_load none H18 v18)) fun v19 H19 =>
  guardP (boolIs false v17) H19 (outP CQ H19 (w_indexAddr (.sl 1) H19 v19 (.int .i64 0))) fun v20 H20 =>
  guardP (boolIs false v17) H20 (outP CQ H20 (w_load none H20 v20)) fun v21 H21 =>
  guardP (boolIs false v17) H21 (outP CQ H21 (w_int .gtr H21 v21 (.int .i32 1048576))) fun v22 H22 =>
  outP CQ H22 (w_pick H22 v17 (.bool true) v22) fun v23 H23 =>
  guardP (boolIs false v23) H23 (outP CQ H23 (w_fieldAddr 7 H23 x2)) fun v24 H24 =>
  guardP (boolIs false v23) H24 (outP CQ H24 (w_load none H24 v24)) fun v25 H25 =>
  guardP (boolIs false v23) H25 (outP CQ H25 (w_indexAddr (.sl 1) H25 v25 (.int .i64 1))) fun v26 H26 =>
  guardP (boolIs false v23) H26 (outP CQ H26 (w_load none H26 v26)) fun v27 H27 =>
  guardP (boolIs false v23) H27 (outP CQ H27 (w_int .lss H27 v27 (.int .i32 (-1048576)))) fun v28 H28 =>
  outP CQ H28 (w_pick H28 v23 (.bool true) v28) fun v29 H29 =>
  guardP (boolIs false v29) H29 (outP CQ H29 (w_fieldAddr 7 H29 x2)) fun v30 H30 =>
  guardP (boolIs false v29) H30 (outP CQ H30 (w_load none H30 v30)) fun v31 H31 =>
  guardP (boolIs false v29) H31 (outP CQ H31 (w_indexAddr (.sl 1) H31 v31 (.int .i64 1))) fun v32 H32 =>
  guardP (boolIs false v29) H32 (outP CQ H32 (w_load none H32 v32)) fun v33 H33 =>
  guardP (boolIs false v29) H33 (outP CQ H33 (w_int .gtr H33 v33 (.int .i32 1048576))) fun v34 H34 =>
  outP CQ H34 (w_pick H34 v29 (.bool true) v34) fun v35 H35 =>
  condP v35
  (m_fieldfarelaw23_CoreOrderttttttttt K x2 x6 (.int .i64 1) H35)
  (outP CQ H35 (w_fieldAddr 8 H35 x2) fun v36 H36 =>
  outP CQ H36 (w_load none H36 v36) fun v37 H37 =>
  outP CQ H37 (w_len PP 9 H37 v37) fun v38 H38 =>
  outP CQ H38 (w_int .gtr H38 v38 (.int .i64 40)) fun v39 H39 =>
  condP v39
  (m_fieldfarelaw23_CoreOrderttttttttt K x2 x6 (.int .i64 11) H39)
  (m_fieldfarelaw23_CoreOrderttttttttt K x2 x6 x7 H39)))
theorem eQ5_tttttttt (K : KT) (a : TE) (H : AH) : bQ5 [1,1,1,1,1,1,1,1] (kQ5 K) a H = m_fieldfarelaw23_CoreOrdertttttttt K (a 2) (a 6) (a 7) H :=
  eSeq (ca := subC (bodyC PP 5) [1,1,1,1,1,1,1,1,0]) (by kernel_rfl) (eQ5_ttttttttt K) (by kernel_rfl)
def m_fieldfarelaw23_CoreOrderttttttt (K : KT) (x2 x6 : AV) (H : AH) : Prop :=
  m_fieldfarelaw23_CoreOrdertttttttt K x2 x6 (.int .i64 0) H
theorem eQ5_ttttttt (K : KT) (a : TE) (H : AH) : bQ5 [1,1,1,1,1,1,1] (kQ5 K) a H = m_fieldfarelaw23_CoreOrderttttttt K (a 2) (a 6) H :=
  eSeq (ca := subC (bodyC PP 5) [1,1,1,1,1,1,1,0]) (by kernel_rfl) (eQ5_tttttttt K) (by kernel_rfl)
def m_fieldfarelaw23_CoreOrdertttttt (K : KT) (x2 x6 : AV) (H : AH) : Prop :=
  outP CQ H (w_fieldAddr 0 H x2) fun v1 H1 =>
  outP CQ H1 (w_store 1 H1 v1 (.int .i64 3)) fun _v2 H2 =>
  outP CQ H2 (w_fieldAddr 1 H2 x2) fun v3 H3 =>
  outP CQ H3 (w_store 1 H3 v3 (.str [97])) fun _v4 H4 =>
  m_fieldfarelaw23_CoreOrderttttttt K x2 x6 H4
theorem eQ5_tttttt (K : KT) (a : TE) (H : AH) : bQ5 [1,1,1,1,1,1] (kQ5 K) a H = m_fieldfarelaw23_CoreOrdertttttt K (a 2) (a 6) H :=
  eSeq (ca := subC (bodyC PP 5) [1,1,1,1,1,1,0]) (by kernel_rfl) (eQ5_ttttttt K) (by kernel_rfl)
def m_fieldfarelaw23_CoreOrderttttt (K : KT) (x2 x6 : AV) (H : AH) : Prop :=
  outP CQ H (w_load (some 11) H x2) fun v1 H1 =>
  outP CQ H1 (some (.enter 14 [v1])) fun v2 H2 =>
  outP CQ H2 (w_store 11 H2 x2 v2) fun _v3 H3 =>
  m_fieldfarelaw23_CoreOrdertttttt K x2 x6 H3
theorem eQ5_ttttt (K : KT) (a : TE) (H : AH) : bQ5 [1,1,1,1,1] (kQ5 K) a H = m_fieldfarelaw23_CoreOrderttttt K (a 2) (a 6) H :=
  eSeq (ca := subC (bodyC PP 5) [1,1,1,1,1,0]) (by kernel_rfl) (eQ5_tttttt K) (by kernel_rfl)
def m_fieldfarelaw23_CoreOrdertttt (K : KT) (x2 x6 : AV) (H : AH) : Prop :=
  outP CQ H (w_eq PP .eql 24 false true H x6 (.ptr none)) fun v1 H1 =>
  condP v1
  (K (.bool false) H1)
  (m_fieldfarelaw23_CoreOrderttttt K x2 x6 H1)
theorem eQ5_tttt (K : KT) (a : TE) (H : AH) : bQ5 [1,1,1,1] (kQ5 K) a H = m_fieldfarelaw23_CoreOrdertttt K (a 2) (a 6) H :=
  eSeq (ca := subC (bodyC PP 5) [1,1,1,1,0]) (by kernel_rfl) (eQ5_ttttt K) (by kernel_rfl)
def m_fieldfarelaw23_CoreOrderttt (K : KT) (x1 x2 : AV) (H : AH) : Prop :=
  outP CQ H (some (.enter 8 [(.int .i64 1), x1])) fun v1 H1 =>
  m_fieldfarelaw23_CoreOrdertttt K x2 v1 H1
theorem eQ5_ttt (K : KT) (a : TE) (H : AH) : bQ5 [1,1,1] (kQ5 K) a H = m_fieldfarelaw23_CoreOrderttt K (a 1) (a 2) H :=
  eSeq (ca := subC (bodyC PP 5) [1,1,1,0]) (by kernel_rfl) (eQ5_tttt K) (by kernel_rfl)
def m_fieldfarelaw23_CoreOrdertt (K : KT) (x1 x2 x5 : AV) (H : AH) : Prop :=
  outP CQ H (w_un .not H x5) fun v1 H1 =>
  condP v1
  (K (.bool false) H1)
  (m_fieldfarelaw23_CoreOrderttt K x1 x2 H1)
theorem eQ5_tt (K : KT) (a : TE) (H : AH) : bQ5 [1,1] (kQ5 K) a H = m_fieldfarelaw23_CoreOrdertt K (a 1) (a 2) (a 5) H :=
  eSeq (ca := subC (bodyC PP 5) [1,1,0]) (by kernel_rfl) (eQ5_ttt K) (by kernel_rfl)
def m_fieldfarelaw23_CoreOrdert (K : KT) (x1 x2 : AV) (H : AH) : Prop :=
  outP CQ H (some (.enter 7 [])) fun v1 H1 =>
  m_fieldfarelaw23_CoreOrdertt K x1 x2 v1 H1
theorem eQ5_t (K : KT) (a : TE) (H : AH) : bQ5 [1] (kQ5 K) a H = m_fieldfarelaw23_CoreOrdert K (a 1) (a 2) H :=
  eSeq (ca := subC (bodyC PP 5) [1,0]) (by kernel_rfl) (eQ5_tt K) (by kernel_rfl)
def m_fieldfarelaw23_CoreOrder (K : KT) (x0 x1 : AV) (H : AH) : Prop :=
  outP CQ H (w_box 41 H x0 none) fun v1 H1 =>
  m_fieldfarelaw23_CoreOrdert K x1 v1 H1
theorem eQ5_ (K : KT) (a : TE) (H : AH) : bQ5 [] (kQ5 K) a H = m_fieldfarelaw23_CoreOrder K (a 0) (a 1) H :=
  eSeq (ca := subC (bodyC PP 5) [0]) (by kernel_rfl) (eQ5_t K) (by kernel_rfl)
theorem m_fieldfarelaw23_CoreOrder_ok (x0 x1 : AV) (H : AH) (K : KT) (h : m_fieldfarelaw23_CoreOrder K x0 x1 H) : CQ.call 5 [x0, x1] H K :=
  have h1 : funP PP CQ 5 [x0, x1] H K = bQ5 [] (kQ5 K) (argE [x0, x1]) H := by kernel_rfl
  have h2 : m_fieldfarelaw23_CoreOrder K (argE [x0, x1] 0) (argE [x0, x1] 1) H = m_fieldfarelaw23_CoreOrder K x0 x1 H := by kernel_rfl
  funP_ok (P := PP) (by kernel_rfl) (by kernel_rfl) ((h1.trans ((eQ5_ K (argE [x0, x1]) H).trans h2)).mpr h)

/-! 8: fieldfare/fieldfarelaw23.filled -/
abbrev bQ8 (p : List Nat) (k : KP) : KE := codeP PP CQ (subC (bodyC PP 8) p) k
abbrev kQ8 (K : KT) : KP := finP PP (resC PP 8) K
abbrev kQ8_ttt (K : KT) : KP := exP (bQ8 [1,1,1,1] (kQ8 K)) (kQ8 K)
abbrev kQ8_tttht (K : KT) : KP := blockP 0 (kQ8_ttt K)
abbrev kQ8_ttthtb (K : KT) (r0 : (AV × AV × AV) → AH → Prop) : KP := exP (fun (a : TE) (H : AH) => r0 (a 1, a 5, a 8) H) (kQ8_tttht K)
def m_fieldfarelaw23_filledttthtbl (K : KT) (r0 : (AV × AV × AV) → AH → Prop) (x1 x5 x8 : AV) (H : AH) : Prop :=
  outP CQ H (w_len PP 22 H x1) fun v1 H1 =>
  outP CQ H1 (w_int .lss H1 x8 v1) fun v2 H2 =>
  guardP (boolIs true v2) H2 (outP CQ H2 (some (.val x8 H2))) fun v3 H3 =>
  guardP (boolIs true v2) H3 (outP CQ H3 (w_int .lss H3 v3 (.int .i64 40))) fun v4 H4 =>
  outP CQ H4 (w_pick H4 v2 v4 (.bool false)) fun v5 H5 =>
  condP v5
  (outP CQ H5 (w_int .add H5 x8 (.int .i64 1)) fun v6 H6 =>
  outP CQ H6 (w_indexAddr (.sl 1) H6 x1 x8) fun v7 H7 =>
  outP CQ H7 (w_load none H7 v7) fun v8 H8 =>
  outP CQ H8 (some (.enter 11 [(.str [97]), v6, v8])) fun v9 H9 =>
  outP CQ H9 (some (.enter 9 [x5, v9])) fun v10 H10 =>
  outP CQ H10 (w_extract 0 H10 v10) fun v11 H11 =>
  outP CQ H11 (w_extract 1 H11 v10) fun v12 H12 =>
  outP CQ H12 (w_alloc 34 [(.int .i64 0), (.slice none 0 0 true), (.str []), (.int .i64 0), (.bool false), (.slice none 0 0 true), (.int .i64 0), (.int .i64 0), (.bool false), (.str []), (.int .i64 0), (.int .i64 0), (.int .i64 0), (.int .i64 0), (.int .i64 0), (.int .i64 0), (.int .i64 0), (.int .i64 0), (.int .i64 0), (.int .i64 0)] H12 none) fun v13 H13 =>
  outP CQ H13 (w_store 20 H13 v13 v11) fun _v14 H14 =>
  outP CQ H14 (w_eq PP .neq 36 false true H14 v12 .nilIface) fun v15 H15 =>
  condP v15
  (K (.ptr none) H15)
  (outP CQ H15 (w_int .add H15 x8 (.int .i64 1)) fun v16 H16 =>
  r0 (x1, x5, v16) H16))
  (K x5 H5)
theorem eQ8_ttthtbl (K : KT) (r0 : (AV × AV × AV) → AH → Prop) (a : TE) (H : AH) : bQ8 [1,1,1,0,1,0,0] (kQ8_ttthtb K r0) a H = m_fieldfarelaw23_filledttthtbl K r0 (a 1) (a 5) (a 8) H :=
  by kernel_rfl
def m_fieldfarelaw23_filledttthtb (K : KT) (x1 x5 x8 : AV) (H : AH) : Prop :=
  loopP (fun (r0 : (AV × AV × AV) → AH → Prop) (s : (AV × AV × AV)) (H : AH) => m_fieldfarelaw23_filledttthtbl K r0 s.1 s.2.1 s.2.2 H) (x1, x5, x8) H
theorem eQ8_ttthtb (K : KT) (a : TE) (H : AH) : bQ8 [1,1,1,0,1,0] (kQ8_tttht K) a H = m_fieldfarelaw23_filledttthtb K (a 1) (a 5) (a 8) H :=
  eLoopK (S := (AV × AV × AV)) (fun a => (a 1, a 5, a 8)) (fun r0 s H => m_fieldfarelaw23_filledttthtbl K r0 s.1 s.2.1 s.2.2 H) (by kernel_rfl) (fun r => by kernel_rfl) (eQ8_ttthtbl K)
theorem eQ8_tttht (K : KT) (a : TE) (H : AH) : bQ8 [1,1,1,0,1] (kQ8_ttt K) a H = m_fieldfarelaw23_filledttthtb K (a 1) (a 5) (a 8) H :=
  eBlockK 0 (by kernel_rfl) (by kernel_rfl) (eQ8_ttthtb K a H)
def m_fieldfarelaw23_filledttth (K : KT) (x1 x5 : AV) (H : AH) : Prop :=
  m_fieldfarelaw23_filledttthtb K x1 x5 (.int .i64 0) H
theorem eQ8_ttth (K : KT) (a : TE) (H : AH) : bQ8 [1,1,1,0] (kQ8_ttt K) a H = m_fieldfarelaw23_filledttth K (a 1) (a 5) H :=
  eSeq (ca := subC (bodyC PP 8) [1,1,1,0,0]) (by kernel_rfl) (eQ8_tttht K) (by kernel_rfl)
theorem eQ8_ttt (K : KT) (a : TE) (H : AH) : bQ8 [1,1,1] (kQ8 K) a H = m_fieldfarelaw23_filledttth K (a 1) (a 5) H :=
  eSeqJ (subC (bodyC PP 8) [1,1,1,1]) (by kernel_rfl) (by kernel_rfl) (eQ8_ttth K a H)
def m_fieldfarelaw23_filledtt (K : KT) (x0 x1 x5 : AV) (H : AH) : Prop :=
  outP CQ H (some (.enter 10 [(.str [97]), x0])) fun v1 H1 =>
  outP CQ H1 (some (.enter 9 [x5, v1])) fun v2 H2 =>
  outP CQ H2 (w_extract 0 H2 v2) fun v3 H3 =>
  outP CQ H3 (w_extract 1 H3 v2) fun v4 H4 =>
  outP CQ H4 (w_alloc 34 [(.int .i64 0), (.slice none 0 0 true), (.str []), (.int .i64 0), (.bool false), (.slice none 0 0 true), (.int .i64 0), (.int .i64 0), (.bool false), (.str []), (.int .i64 0), (.int .i64 0), (.int .i64 0), (.int .i64 0), (.int .i64 0), (.int .i64 0), (.int .i64 0), (.int .i64 0), (.int .i64 0), (.int .i64 0)] H4 none) fun v5 H5 =>
  outP CQ H5 (w_store 20 H5 v5 v3) fun _v6 H6 =>
  outP CQ H6 (w_eq PP .neq 36 false true H6 v4 .nilIface) fun v7 H7 =>
  condP v7
  (K (.ptr none) H7)
  (m_fieldfarelaw23_filledttth K x1 x5 H7)
theorem eQ8_tt (K : KT) (a : TE) (H : AH) : bQ8 [1,1] (kQ8 K) a H = m_fieldfarelaw23_filledtt K (a 0) (a 1) (a 5) H :=
  eSeq (ca := subC (bodyC PP 8) [1,1,0]) (by kernel_rfl) (eQ8_ttt K) (by kernel_rfl)
def m_fieldfarelaw23_filledt (K : KT) (x0 x1 : AV) (H : AH) : Prop :=
  outP CQ H (some (.enter 13 [])) fun v1 H1 =>
  m_fieldfarelaw23_filledtt K x0 x1 v1 H1
theorem eQ8_t (K : KT) (a : TE) (H : AH) : bQ8 [1] (kQ8 K) a H = m_fieldfarelaw23_filledt K (a 0) (a 1) H :=
  eSeq (ca := subC (bodyC PP 8) [1,0]) (by kernel_rfl) (eQ8_tt K) (by kernel_rfl)
def m_fieldfarelaw23_filled (K : KT) (x0 x1 : AV) (H : AH) : Prop :=
  m_fieldfarelaw23_filledt K x0 x1 H
theorem eQ8_ (K : KT) (a : TE) (H : AH) : bQ8 [] (kQ8 K) a H = m_fieldfarelaw23_filled K (a 0) (a 1) H :=
  eSeq (ca := subC (bodyC PP 8) [0]) (by kernel_rfl) (eQ8_t K) (by kernel_rfl)
theorem m_fieldfarelaw23_filled_ok (x0 x1 : AV) (H : AH) (K : KT) (h : m_fieldfarelaw23_filled K x0 x1 H) : CQ.call 8 [x0, x1] H K :=
  have h1 : funP PP CQ 8 [x0, x1] H K = bQ8 [] (kQ8 K) (argE [x0, x1]) H := by kernel_rfl
  have h2 : m_fieldfarelaw23_filled K (argE [x0, x1] 0) (argE [x0, x1] 1) H = m_fieldfarelaw23_filled K x0 x1 H := by kernel_rfl
  funP_ok (P := PP) (by kernel_rfl) (by kernel_rfl) ((h1.trans ((eQ8_ K (argE [x0, x1]) H).trans h2)).mpr h)

/-! 10: fieldfare/fieldfarelaw23.create -/
abbrev bQ10 (p : List Nat) (k : KP) : KE := codeP PP CQ (subC (bodyC PP 10) p) k
abbrev kQ10 (K : KT) : KP := finP PP (resC PP 10) K
def m_fieldfarelaw23_create (K : KT) (x0 x1 : AV) (H : AH) : Prop :=
  outP CQ H (w_alloc 41 [(.int .i64 0), (.str []), (.str []), (.int .i64 0), (.int .i64 0), (.int .i64 0), (.int .i64 0), (.slice none 0 0 true), (.str []), (.int .i64 0), (.int .u32 0)] H none) fun v1 H1 =>
  outP CQ H1 (w_build PP 41 H1 [(0, (.int .i64 1)), (1, x0), (4, (.int .i64 2)), (5, (.int .i64 1)), (6, x1)]) fun v2 H2 =>
  outP CQ H2 (w_store 11 H2 v1 v2) fun _v3 H3 =>
  endP (resR (partF (some (some 11))) H3 v1 (some [])) K H3
theorem eQ10_ (K : KT) (a : TE) (H : AH) : bQ10 [] (kQ10 K) a H = m_fieldfarelaw23_create K (a 0) (a 1) H :=
  by kernel_rfl
theorem m_fieldfarelaw23_create_ok (x0 x1 : AV) (H : AH) (K : KT) (h : m_fieldfarelaw23_create K x0 x1 H) : CQ.call 10 [x0, x1] H K :=
  have h1 : funP PP CQ 10 [x0, x1] H K = bQ10 [] (kQ10 K) (argE [x0, x1]) H := by kernel_rfl
  have h2 : m_fieldfarelaw23_create K (argE [x0, x1] 0) (argE [x0, x1] 1) H = m_fieldfarelaw23_create K x0 x1 H := by kernel_rfl
  funP_ok (P := PP) (by kernel_rfl) (by kernel_rfl) ((h1.trans ((eQ10_ K (argE [x0, x1]) H).trans h2)).mpr h)

/-! 11: fieldfare/fieldfarelaw23.put -/
abbrev bQ11 (p : List Nat) (k : KP) : KE := codeP PP CQ (subC (bodyC PP 11) p) k
abbrev kQ11 (K : KT) : KP := finP PP (resC PP 11) K
def m_fieldfarelaw23_put (K : KT) (x0 x1 x2 : AV) (H : AH) : Prop :=
  outP CQ H (w_alloc 41 [(.int .i64 0), (.str []), (.str []), (.int .i64 0), (.int .i64 0), (.int .i64 0), (.int .i64 0), (.slice none 0 0 true), (.str []), (.int .i64 0), (.int .u32 0)] H none) fun v1 H1 =>
  outP CQ H1 (some (.enter 40 [x2, (.int .i64 2)])) fun v2 H2 =>
  outP CQ H2 (w_int .mul H2 x1 (.int .i64 12)) fun v3 H3 =>
  outP CQ H3 (w_conv (.int .u32) H3 v3 none) fun v4 H4 =>
  outP CQ H4 (w_build PP 41 H4 [(0, (.int .i64 3)), (1, x0), (3, x1), (7, v2), (10, v4)]) fun v5 H5 =>
  outP CQ H5 (w_store 11 H5 v1 v5) fun _v6 H6 =>
  endP (resR (partF (some (some 11))) H6 v1 (some [])) K H6
theorem eQ11_ (K : KT) (a : TE) (H : AH) : bQ11 [] (kQ11 K) a H = m_fieldfarelaw23_put K (a 0) (a 1) (a 2) H :=
  by kernel_rfl
theorem m_fieldfarelaw23_put_ok (x0 x1 x2 : AV) (H : AH) (K : KT) (h : m_fieldfarelaw23_put K x0 x1 x2 H) : CQ.call 11 [x0, x1, x2] H K :=
  have h1 : funP PP CQ 11 [x0, x1, x2] H K = bQ11 [] (kQ11 K) (argE [x0, x1, x2]) H := by kernel_rfl
  have h2 : m_fieldfarelaw23_put K (argE [x0, x1, x2] 0) (argE [x0, x1, x2] 1) (argE [x0, x1, x2] 2) H = m_fieldfarelaw23_put K x0 x1 x2 H := by kernel_rfl
  funP_ok (P := PP) (by kernel_rfl) (by kernel_rfl) ((h1.trans ((eQ11_ K (argE [x0, x1, x2]) H).trans h2)).mpr h)

/-! 14: fieldfare/fieldfarelaw23.Fit -/
abbrev bQ14 (p : List Nat) (k : KP) : KE := codeP PP CQ (subC (bodyC PP 14) p) k
abbrev kQ14 (K : KT) : KP := finP PP (resC PP 14) K
def m_fieldfarelaw23_Fit (K : KT) (x0 : AV) (H : AH) : Prop :=
  outP CQ H (w_box 41 H x0 none) fun v1 H1 =>
  outP CQ H1 (w_alloc 41 [(.int .i64 0), (.str []), (.str []), (.int .i64 0), (.int .i64 0), (.int .i64 0), (.int .i64 0), (.slice none 0 0 true), (.str []), (.int .i64 0), (.int .u32 0)] H1 none) fun v2 H2 =>
  outP CQ H2 (w_fieldAddr 1 H2 v1) fun v3 H3 =>
  outP CQ H3 (w_load none H3 v3) fun v4 H4 =>
  outP CQ H4 (w_fieldAddr 2 H4 v1) fun v5 H5 =>
  outP CQ H5 (w_load none H5 v5) fun v6 H6 =>
  outP CQ H6 (some (.enter 42 [v4, (.int .i64 14)])) fun v7 H7 =>
  ckP (reC true (w_load none H7 v5) v6) <|
  outP CQ H7 (w_fieldAddr 1 H7 v1) fun v8 H8 =>
  outP CQ H8 (some (.enter 42 [v6, (.int .i64 14)])) fun v9 H9 =>
  outP CQ H9 (w_store 1 H9 v8 v7) fun _v10 H10 =>
  outP CQ H10 (w_fieldAddr 2 H10 v1) fun v11 H11 =>
  outP CQ H11 (w_store 1 H11 v11 v9) fun _v12 H12 =>
  outP CQ H12 (w_fieldAddr 7 H12 v1) fun v13 H13 =>
  outP CQ H13 (w_load none H13 v13) fun v14 H14 =>
  outP CQ H14 (w_fieldAddr 7 H14 v1) fun v15 H15 =>
  outP CQ H15 (w_load none H15 v15) fun v16 H16 =>
  outP CQ H16 (w_len PP 27 H16 v16) fun v17 H17 =>
  outP CQ H17 (w_min2 H17 v17 (.int .i64 9)) fun v18 H18 =>
  outP CQ H18 (w_slice (.sl 1) true false H18 v14 none (some v18) none) fun v19 H19 =>
  outP CQ H19 (w_fieldAddr 8 H19 v1) fun v20 H20 =>
  outP CQ H20 (w_load none H20 v20) fun v21 H21 =>
  outP CQ H21 (w_fieldAddr 7 H21 v1) fun v22 H22 =>
  outP CQ H22 (some (.enter 42 [v21, (.int .i64 45)])) fun v23 H23 =>
  ckP (reC true (w_load none H23 v13) v14) <|
  ckP (reC true (w_load none H23 v15) v16) <|
  ckP (reC true (w_len PP 27 H23 v16) v17) <|
  outP CQ H23 (w_store 1 H23 v22 v19) fun _v24 H24 =>
  outP CQ H24 (w_fieldAddr 8 H24 v1) fun v25 H25 =>
  outP CQ H25 (w_store 1 H25 v25 v23) fun _v26 H26 =>
  outP CQ H26 (w_load (some 11) H26 v1) fun v27 H27 =>
  outP CQ H27 (w_store 11 H27 v2 v27) fun _v28 H28 =>
  endP (resR (partF (some (some 11))) H28 v2 (some [])) K H28
theorem eQ14_ (K : KT) (a : TE) (H : AH) : bQ14 [] (kQ14 K) a H = m_fieldfarelaw23_Fit K (a 0) H :=
  by kernel_rfl
theorem m_fieldfarelaw23_Fit_ok (x0 : AV) (H : AH) (K : KT) (h : m_fieldfarelaw23_Fit K x0 H) : CQ.call 14 [x0] H K :=
  have h1 : funP PP CQ 14 [x0] H K = bQ14 [] (kQ14 K) (argE [x0]) H := by kernel_rfl
  have h2 : m_fieldfarelaw23_Fit K (argE [x0] 0) H = m_fieldfarelaw23_Fit K x0 H := by kernel_rfl
  funP_ok (P := PP) (by kernel_rfl) (by kernel_rfl) ((h1.trans ((eQ14_ K (argE [x0]) H).trans h2)).mpr h)

/-! 42: fieldfare/fieldfarelaw1.Text -/
abbrev bQ42 (p : List Nat) (k : KP) : KE := codeP PP CQ (subC (bodyC PP 42) p) k
abbrev kQ42 (K : KT) : KP := finP PP (resC PP 42) K
def m_fieldfarelaw1_Text (K : KT) (x0 x1 : AV) (H : AH) : Prop :=
  outP CQ H (w_len PP 9 H x0) fun v1 H1 =>
  outP CQ H1 (w_min2 H1 v1 x1) fun v2 H2 =>
  outP CQ H2 (w_slice .str true false H2 x0 none (some v2) none) fun v3 H3 =>
  K v3 H3
theorem eQ42_ (K : KT) (a : TE) (H : AH) : bQ42 [] (kQ42 K) a H = m_fieldfarelaw1_Text K (a 0) (a 1) H :=
  by kernel_rfl
theorem m_fieldfarelaw1_Text_ok (x0 x1 : AV) (H : AH) (K : KT) (h : m_fieldfarelaw1_Text K x0 x1 H) : CQ.call 42 [x0, x1] H K :=
  have h1 : funP PP CQ 42 [x0, x1] H K = bQ42 [] (kQ42 K) (argE [x0, x1]) H := by kernel_rfl
  have h2 : m_fieldfarelaw1_Text K (argE [x0, x1] 0) (argE [x0, x1] 1) H = m_fieldfarelaw1_Text K x0 x1 H := by kernel_rfl
  funP_ok (P := PP) (by kernel_rfl) (by kernel_rfl) ((h1.trans ((eQ42_ K (argE [x0, x1]) H).trans h2)).mpr h)

/-! 40: fieldfare/fieldfarelaw7.Vec -/
abbrev bQ40 (p : List Nat) (k : KP) : KE := codeP PP CQ (subC (bodyC PP 40) p) k
abbrev kQ40 (K : KT) : KP := finP PP (resC PP 40) K
abbrev kQ40_tt (K : KT) : KP := exP (bQ40 [1,1,1] (kQ40 K)) (kQ40 K)
abbrev kQ40_ttht (K : KT) : KP := blockP 0 (kQ40_tt K)
abbrev kQ40_tthtb (K : KT) (r0 : (AV × AV × AV × AV) → AH → Prop) : KP := exP (fun (a : TE) (H : AH) => r0 (a 0, a 1, a 5, a 6) H) (kQ40_ttht K)
def m_fieldfarelaw7_Vectthtbl (K : KT) (r0 : (AV × AV × AV × AV) → AH → Prop) (x0 x1 x5 x6 : AV) (H : AH) : Prop :=
  outP CQ H (w_int .lss H x6 x1) fun v1 H1 =>
  guardP (boolIs true v1) H1 (outP CQ H1 (some (.val x6 H1))) fun v2 H2 =>
  guardP (boolIs true v1) H2 (outP CQ H2 (some (.val x0 H2))) fun v3 H3 =>
  guardP (boolIs true v1) H3 (outP CQ H3 (w_len PP 27 H3 v3)) fun v4 H4 =>
  guardP (boolIs true v1) H4 (outP CQ H4 (w_int .lss H4 v2 v4)) fun v5 H5 =>
  outP CQ H5 (w_pick H5 v1 v5 (.bool false)) fun v6 H6 =>
  condP v6
  (outP CQ H6 (w_indexAddr (.sl 1) H6 x0 x6) fun v7 H7 =>
  outP CQ H7 (w_load none H7 v7) fun v8 H8 =>
  outP CQ H8 (w_min2 H8 v8 (.int .i32 1048576)) fun v9 H9 =>
  outP CQ H9 (w_max2 H9 (.int .i32 (-1048576)) v9) fun v10 H10 =>
  outP CQ H10 (w_indexAddr (.sl 1) H10 x5 x6) fun v11 H11 =>
  outP CQ H11 (w_store 1 H11 v11 v10) fun _v12 H12 =>
  outP CQ H12 (w_int .add H12 x6 (.int .i64 1)) fun v13 H13 =>
  r0 (x0, x1, x5, v13) H13)
  (K x5 H6)
theorem eQ40_tthtbl (K : KT) (r0 : (AV × AV × AV × AV) → AH → Prop) (a : TE) (H : AH) : bQ40 [1,1,0,1,0,0] (kQ40_tthtb K r0) a H = m_fieldfarelaw7_Vectthtbl K r0 (a 0) (a 1) (a 5) (a 6) H :=
  by kernel_rfl
def m_fieldfarelaw7_Vectthtb (K : KT) (x0 x1 x5 x6 : AV) (H : AH) : Prop :=
  loopP (fun (r0 : (AV × AV × AV × AV) → AH → Prop) (s : (AV × AV × AV × AV)) (H : AH) => m_fieldfarelaw7_Vectthtbl K r0 s.1 s.2.1 s.2.2.1 s.2.2.2 H) (x0, x1, x5, x6) H
theorem eQ40_tthtb (K : KT) (a : TE) (H : AH) : bQ40 [1,1,0,1,0] (kQ40_ttht K) a H = m_fieldfarelaw7_Vectthtb K (a 0) (a 1) (a 5) (a 6) H :=
  eLoopK (S := (AV × AV × AV × AV)) (fun a => (a 0, a 1, a 5, a 6)) (fun r0 s H => m_fieldfarelaw7_Vectthtbl K r0 s.1 s.2.1 s.2.2.1 s.2.2.2 H) (by kernel_rfl) (fun r => by kernel_rfl) (eQ40_tthtbl K)
theorem eQ40_ttht (K : KT) (a : TE) (H : AH) : bQ40 [1,1,0,1] (kQ40_tt K) a H = m_fieldfarelaw7_Vectthtb K (a 0) (a 1) (a 5) (a 6) H :=
  eBlockK 0 (by kernel_rfl) (by kernel_rfl) (eQ40_tthtb K a H)
def m_fieldfarelaw7_Vectth (K : KT) (x0 x1 x5 : AV) (H : AH) : Prop :=
  m_fieldfarelaw7_Vectthtb K x0 x1 x5 (.int .i64 0) H
theorem eQ40_tth (K : KT) (a : TE) (H : AH) : bQ40 [1,1,0] (kQ40_tt K) a H = m_fieldfarelaw7_Vectth K (a 0) (a 1) (a 5) H :=
  eSeq (ca := subC (bodyC PP 40) [1,1,0,0]) (by kernel_rfl) (eQ40_ttht K) (by kernel_rfl)
theorem eQ40_tt (K : KT) (a : TE) (H : AH) : bQ40 [1,1] (kQ40 K) a H = m_fieldfarelaw7_Vectth K (a 0) (a 1) (a 5) H :=
  eSeqJ (subC (bodyC PP 40) [1,1,1]) (by kernel_rfl) (by kernel_rfl) (eQ40_tth K a H)
def m_fieldfarelaw7_Vect (K : KT) (x0 x1 : AV) (H : AH) : Prop :=
  outP CQ H (w_makeSlice PP 21 H x1 x1 none) fun v1 H1 =>
  m_fieldfarelaw7_Vectth K x0 x1 v1 H1
theorem eQ40_t (K : KT) (a : TE) (H : AH) : bQ40 [1] (kQ40 K) a H = m_fieldfarelaw7_Vect K (a 0) (a 1) H :=
  eSeq (ca := subC (bodyC PP 40) [1,0]) (by kernel_rfl) (eQ40_tt K) (by kernel_rfl)
def m_fieldfarelaw7_Vec (K : KT) (x0 x1 : AV) (H : AH) : Prop :=
  m_fieldfarelaw7_Vect K x0 x1 H
theorem eQ40_ (K : KT) (a : TE) (H : AH) : bQ40 [] (kQ40 K) a H = m_fieldfarelaw7_Vec K (a 0) (a 1) H :=
  eSeq (ca := subC (bodyC PP 40) [0]) (by kernel_rfl) (eQ40_t K) (by kernel_rfl)
theorem m_fieldfarelaw7_Vec_ok (x0 x1 : AV) (H : AH) (K : KT) (h : m_fieldfarelaw7_Vec K x0 x1 H) : CQ.call 40 [x0, x1] H K :=
  have h1 : funP PP CQ 40 [x0, x1] H K = bQ40 [] (kQ40 K) (argE [x0, x1]) H := by kernel_rfl
  have h2 : m_fieldfarelaw7_Vec K (argE [x0, x1] 0) (argE [x0, x1] 1) H = m_fieldfarelaw7_Vec K x0 x1 H := by kernel_rfl
  funP_ok (P := PP) (by kernel_rfl) (by kernel_rfl) ((h1.trans ((eQ40_ K (argE [x0, x1]) H).trans h2)).mpr h)

end
end Go.Ab
