/- What functions do, said as what the evaluator does. Printed by a program. -/
import Derived.Test.YtlbjmgpbgkiejaaGreatDoorBeg
import Derived.Test.YtlbjmgpbgkiejaaGreatDoorMir2
namespace Go.Ab
noncomputable section
open Go.Proofs
set_option maxRecDepth 100000



/-! 119: slices.Sorted[int] -/
abbrev bQ119 (p : List Nat) (k : KP) : KE := codeP PP CC (subC (bodyC PP 119) p) k
abbrev kQ119 (K : KT) : KP := finP PP (resC PP 119) K
def m_slices_Sorted_int (K : KT) (x0 : AV) (H : AH) : Prop :=
  outP CC H (some (.enter 202 [x0])) fun v1 H1 =>
  outP CC H1 (some (.enter 203 [v1])) fun _v2 H2 =>
  K v1 H2
theorem eQ119_ (K : KT) (a : TE) (H : AH) : bQ119 [] (kQ119 K) a H = m_slices_Sorted_int K (a 0) H :=
  by kernel_rfl
theorem m_slices_Sorted_int_ok (x0 : AV) (H : AH) (K : KT) (h : m_slices_Sorted_int K x0 H) : CC.call 119 [x0] H K :=
  have h1 : funP PP CC 119 [x0] H K = bQ119 [] (kQ119 K) (argE [x0]) H := by kernel_rfl
  have h2 : m_slices_Sorted_int K (argE [x0] 0) H = m_slices_Sorted_int K x0 H := by kernel_rfl
  funP_ok (P := PP) (by kernel_rfl) (by kernel_rfl) ((h1.trans ((eQ119_ K (argE [x0]) H).trans h2)).mpr h)

/-! 206: slices.Values[[]int,int] -/
abbrev bQ206 (p : List Nat) (k : KP) : KE := codeP PP CC (subC (bodyC PP 206) p) k
abbrev kQ206 (K : KT) : KP := finP PP (resC PP 206) K
def m_slices_Values_int_int (K : KT) (x0 : AV) (H : AH) : Prop :=
  outP CC H (w_box 54 H x0 none) fun v1 H1 =>
  outP CC H1 (some (.val (.fn (.func 269) [] [v1]) H1)) fun v2 H2 =>
  K v2 H2
theorem eQ206_ (K : KT) (a : TE) (H : AH) : bQ206 [] (kQ206 K) a H = m_slices_Values_int_int K (a 0) H :=
  by kernel_rfl
theorem m_slices_Values_int_int_ok (x0 : AV) (H : AH) (K : KT) (h : m_slices_Values_int_int K x0 H) : CC.call 206 [x0] H K :=
  have h1 : funP PP CC 206 [x0] H K = bQ206 [] (kQ206 K) (argE [x0]) H := by kernel_rfl
  have h2 : m_slices_Values_int_int K (argE [x0] 0) H = m_slices_Values_int_int K x0 H := by kernel_rfl
  funP_ok (P := PP) (by kernel_rfl) (by kernel_rfl) ((h1.trans ((eQ206_ K (argE [x0]) H).trans h2)).mpr h)

/-! 202: slices.Collect[int] -/
abbrev bQ202 (p : List Nat) (k : KP) : KE := codeP PP CC (subC (bodyC PP 202) p) k
abbrev kQ202 (K : KT) : KP := finP PP (resC PP 202) K
def m_slices_Collect_int (K : KT) (x0 : AV) (H : AH) : Prop :=
  outP CC H (some (.enter 265 [(.slice none 0 0 true), x0])) fun v1 H1 =>
  K v1 H1
theorem eQ202_ (K : KT) (a : TE) (H : AH) : bQ202 [] (kQ202 K) a H = m_slices_Collect_int K (a 0) H :=
  by kernel_rfl
theorem m_slices_Collect_int_ok (x0 : AV) (H : AH) (K : KT) (h : m_slices_Collect_int K x0 H) : CC.call 202 [x0] H K :=
  have h1 : funP PP CC 202 [x0] H K = bQ202 [] (kQ202 K) (argE [x0]) H := by kernel_rfl
  have h2 : m_slices_Collect_int K (argE [x0] 0) H = m_slices_Collect_int K x0 H := by kernel_rfl
  funP_ok (P := PP) (by kernel_rfl) (by kernel_rfl) ((h1.trans ((eQ202_ K (argE [x0]) H).trans h2)).mpr h)

/-! 269: slices.Values[[]int,int]$1 -/
abbrev bQ269 (p : List Nat) (k : KP) : KE := codeP PP CC (subC (bodyC PP 269) p) k
abbrev kQ269 (K : KT) : KP := finP PP (resC PP 269) K
abbrev kQ269_t (K : KT) : KP := blockP 0 (kQ269 K)
abbrev kQ269_tb (K : KT) (r0 : (AV × AV × AV × AV) → AH → Prop) : KP := exP (fun (a : TE) (H : AH) => r0 (a 0, a 5, a 6, a 7) H) (kQ269_t K)
def m_slices_Values_1_int_inttbl (K : KT) (r0 : (AV × AV × AV × AV) → AH → Prop) (x0 x5 x6 x7 : AV) (H : AH) : Prop :=
  outP CC H (w_int .lss H x7 x6) fun v1 H1 =>
  condP v1
  (outP CC H1 (w_indexAddr (.sl 1) H1 x5 x7) fun v2 H2 =>
  outP CC H2 (w_load none H2 v2) fun v3 H3 =>
  outP CC H3 (callV [v3] x0) fun v4 H4 =>
  outP CC H4 (w_un .not H4 v4) fun v5 H5 =>
  condP v5
  (K (.tup []) H5)
  (outP CC H5 (w_int .add H5 x7 (.int .i64 1)) fun v6 H6 =>
  r0 (x0, x5, x6, v6) H6))
  (K (.tup []) H1)
theorem eQ269_tbl (K : KT) (r0 : (AV × AV × AV × AV) → AH → Prop) (a : TE) (H : AH) : bQ269 [1,0,0] (kQ269_tb K r0) a H = m_slices_Values_1_int_inttbl K r0 (a 0) (a 5) (a 6) (a 7) H :=
  by kernel_rfl
def m_slices_Values_1_int_inttb (K : KT) (x0 x5 x6 x7 : AV) (H : AH) : Prop :=
  loopP (fun (r0 : (AV × AV × AV × AV) → AH → Prop) (s : (AV × AV × AV × AV)) (H : AH) => m_slices_Values_1_int_inttbl K r0 s.1 s.2.1 s.2.2.1 s.2.2.2 H) (x0, x5, x6, x7) H
theorem eQ269_tb (K : KT) (a : TE) (H : AH) : bQ269 [1,0] (kQ269_t K) a H = m_slices_Values_1_int_inttb K (a 0) (a 5) (a 6) (a 7) H :=
  eLoopK (S := (AV × AV × AV × AV)) (fun a => (a 0, a 5, a 6, a 7)) (fun r0 s H => m_slices_Values_1_int_inttbl K r0 s.1 s.2.1 s.2.2.1 s.2.2.2 H) (by kernel_rfl) (fun r => by kernel_rfl) (eQ269_tbl K)
theorem eQ269_t (K : KT) (a : TE) (H : AH) : bQ269 [1] (kQ269 K) a H = m_slices_Values_1_int_inttb K (a 0) (a 5) (a 6) (a 7) H :=
  eBlockK 0 (by kernel_rfl) (by kernel_rfl) (eQ269_tb K a H)
def m_slices_Values_1_int_int (K : KT) (x0 x1 : AV) (H : AH) : Prop :=
  outP CC H (w_load none H x1) fun v1 H1 =>
  outP CC H1 (w_len PP 54 H1 v1) fun v2 H2 =>
  m_slices_Values_1_int_inttb K x0 v1 v2 (.int .i64 0) H2
theorem eQ269_ (K : KT) (a : TE) (H : AH) : bQ269 [] (kQ269 K) a H = m_slices_Values_1_int_int K (a 0) (a 1) H :=
  eSeq (ca := subC (bodyC PP 269) [0]) (by kernel_rfl) (eQ269_t K) (by kernel_rfl)
theorem m_slices_Values_1_int_int_ok (x0 x1 : AV) (H : AH) (K : KT) (h : m_slices_Values_1_int_int K x0 x1 H) : CC.call 269 [x0, x1] H K :=
  have h1 : funP PP CC 269 [x0, x1] H K = bQ269 [] (kQ269 K) (argE [x0, x1]) H := by kernel_rfl
  have h2 : m_slices_Values_1_int_int K (argE [x0, x1] 0) (argE [x0, x1] 1) H = m_slices_Values_1_int_int K x0 x1 H := by kernel_rfl
  funP_ok (P := PP) (by kernel_rfl) (by kernel_rfl) ((h1.trans ((eQ269_ K (argE [x0, x1]) H).trans h2)).mpr h)

end
end Go.Ab
